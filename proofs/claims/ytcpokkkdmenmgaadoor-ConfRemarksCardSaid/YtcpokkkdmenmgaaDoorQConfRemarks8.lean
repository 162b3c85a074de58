/- addr: six: an address of version 6 out of a text. Condition: the cell of bytealg.MaxLen, a text of at most 80 bytes. -/
import Derived.Test.YtcpokkkdmenmgaaDoorQConfRemarks6
import Derived.Test.YtcpokkkdmenmgaaDoorQConfRemarks3
import Derived.Test.YtcpokkkdmenmgaaDoorQConfRemarks2
import Derived.Laws.CopyOwn
namespace Go.Proofs.YtcpokkkdmenmgaaDoor
open Go.RowKit Go.ChangeShapes Go.WideShapes Go.ChangeAt Go.Deep
namespace Addr05
theorem below_drews (B : Nat) (w : World) (n : Nat) : Below B w (w.drewN n) := by
  induction n with
  | zero => exact Below.refl _ _
  | succ n ih => exact ih.drew
theorem cut_any (sep s : List UInt8) (hs : s.length ≤ 65536) (w : World) (hm : MaxAt w) :
    Calls Tryd.prog 55 #[.string (str s), .string (str sep)] w fun e w' => e = .returned (.tuple #[.string (str (Lib.cut s sep).1), .string (str (Lib.cut s sep).2.1), .bool (Lib.cut s sep).2.2]) ∧ Below w.heap.size w w' := by
  obtain ⟨m, hm⟩ := hm
  refine (Tryd.strings_Cut (str s) (str sep) m w (by rw [size_str]; omega) hm).mono ?_
  rintro e w' ⟨rfl, n, rfl⟩
  exact ⟨rfl, below_drews _ _ n⟩
theorem cut_len (s sep : List UInt8) : (Lib.cut s sep).1.length ≤ s.length ∧ (Lib.cut s sep).2.1.length ≤ s.length := by
  unfold Lib.cut
  split <;> simp
  omega
theorem splice_map {α β : Type} (f : α → β) (L : List α) (o : Nat) (cs : List α) : splice (L.map f) o (cs.map f) = (splice L o cs).map f := by
  simp [splice]
/-- Numbers are copied into a block. -/
theorem wpl_copy_u64 {w : World} {ops : Array Oper} {rest : List Oper} {o : Oper} {a : Act} {Q : Exit → Act → World → Prop} (hgd : o.guard = none) (d s : Operand)
    (ho : o.op = .call { callee := .builtin .copy, args := #[d, s], argTypes := #[170, 170] }) (g p dl dc m sc B : Nat) (dp A : Option Addr) (cs : List Nat) (ys : List Nat) {t : TypeId}
    (hd : a.eval d = .slice dp dl dc) (hs : a.eval s = .slice A m sc) (hg : w.heap[g]? = some (.cells (cs.map u64v).toArray t (0, 0))) (hr : IsR u64v w B A m ys) (hdp : 0 < m → dp = some ⟨g, p, none⟩) (hfit : p + m ≤ cs.length) (hk : m ≤ dl)
    (h : ∀ w', w'.heap[g]? = some (.cells ((splice cs p ys).map u64v).toArray t (0, 0)) → Below g w w' → wpList Tryd.prog ops Q rest (a.put o.dst (goInt m)) w') : wpList Tryd.prog ops Q (o :: rest) a w := by
  have hl := hr.len
  have hlm : (ys.map u64v).length = m := by rw [List.length_map, hl]
  refine wpList_copy_splice hgd d s _ _ ho 25 Tryd.underlying170 (by kernel_rfl) _ _ _ _ _ _ hd hs g p (cs.map u64v) t hg (ys.map u64v) ?_ ?_ ?_ ?_ g w (Below.refl _ _) (Nat.le_refl _) ?_
  · rw [hlm]; exact (Nat.min_eq_left hk).symm
  · intro h1
    rw [hlm] at h1
    obtain ⟨b2, off2, rfl, _, hcs2⟩ := hr.2 h1
    refine ⟨hdp h1, _, rfl, fun j v hj => ?_⟩
    obtain ⟨hj', rfl⟩ := List.getElem?_eq_some_iff.1 hj
    rw [hlm] at hj'
    rw [show Addr.add ⟨b2, off2, none⟩ j = (⟨b2, off2 + j, none⟩ : Addr) by unfold Addr.add; split <;> simp_all]
    rw [hcs2 j (by rw [hlm]; exact hj')]
  · rw [hlm, List.length_map]; exact hfit
  · intro v hv
    obtain ⟨x, _, rfl⟩ := List.mem_map.1 hv
    rfl
  intro w' hh' hb'
  rw [hlm]
  have h2 := hh'.out
  rw [splice_map] at h2
  exact h w' h2 hb'
theorem sixG_splice (a b : List Nat) (h : a.length + b.length ≤ 8) : splice (splice (List.replicate 8 0) 0 a) (8 - b.length) b = sixG a b := by
  unfold splice sixG
  rw [List.take_zero, List.nil_append, Nat.zero_add, List.drop_replicate, List.take_append, List.take_of_length_le (by omega), List.take_replicate,
    List.drop_of_length_le (by rw [List.length_append, List.length_replicate]; omega), List.append_nil, show min (8 - b.length - a.length) (8 - a.length) = 8 - (a.length + b.length) by omega]
theorem wordN_snoc (l : List Nat) (k x : Nat) (h : l[k]? = some x) : wordN (l.take (k + 1)) = wordN (l.take k) * 65536 + x := by
  unfold wordN
  rw [List.take_add_one, h]
  simp
theorem wordN_pow : ∀ (l : List Nat) (n : Nat), (∀ x ∈ l, x < 65536) → l.foldl (fun n x => n * 65536 + x) n < (n + 1) * 65536 ^ l.length
  | [], n, _ => by simp
  | x :: r, n, h => by
    rw [List.foldl_cons, List.length_cons, Nat.pow_succ]
    have h1 := wordN_pow r (n * 65536 + x) fun y hy => h y (List.mem_cons_of_mem _ hy)
    have hx := h x List.mem_cons_self
    refine Nat.lt_of_lt_of_le h1 ?_
    rw [Nat.mul_comm (65536 ^ r.length) 65536, ← Nat.mul_assoc]
    exact Nat.mul_le_mul_right _ (by omega)
theorem wordN_take (l : List Nat) (k : Nat) (h : ∀ x ∈ l, x < 65536) (hk : k ≤ 3) : wordN (l.take k) < 281474976710656 := by
  have h1 := wordN_pow (l.take k) 0 fun x hx => h x (List.mem_of_mem_take hx)
  rw [Nat.zero_add, Nat.one_mul] at h1
  refine Nat.lt_of_lt_of_le h1 ?_
  refine Nat.le_trans (Nat.pow_le_pow_right (by omega) (show (l.take k).length ≤ 3 by rw [List.length_take]; omega)) (by decide)
theorem u64_or16 (n v : Nat) (hv : v < 65536) (hn : n < 281474976710656) : bits .or .u64 (((n * 65536 : Nat)) : Int) (v : Int) = ((n * 65536 + v : Nat) : Int) :=
  bits_join .u64 64 (by decide) wrapsu64 16 _ _ (by omega) (by omega) (by omega) (by omega) (by omega) (by omega)
theorem alloc_adr (o : Oper) (h : o.op = .alloc 27) (ρ : Operand → Value) (w : World) : (execOp ρ o).run Tryd.prog w = .ok (.value (.pointer (some ⟨w.heap.size, 0, none⟩))) (w.alloc (.cells #[.bool false, .int .u64 0, .int .u64 0] 27)) := by
  obtain ⟨d, op, t, ps, af, g⟩ := o
  dsimp only at h
  subst h
  kernel_rfl
theorem nums_len : ∀ (xs : List (List UInt8)) (l : List Nat), nums xs = some l → l.length = xs.length
  | [], l, h => by simp [nums] at h; subst h; rfl
  | x :: r, l, h => by
    rw [nums] at h
    split at h
    · obtain ⟨l', hl', rfl⟩ := Option.map_eq_some_iff.1 h
      simp [nums_len r l' hl']
    · cases h
theorem list_len (s : List UInt8) : ((listF s).getD []).length ≤ s.length + 1 := by
  cases h : listF s with
  | none => simp
  | some l =>
    unfold listF at h
    split at h
    · cases h; simp
    · have h1 := nums_len _ _ h
      have h2 := split_len 58 s
      simp only [Option.getD_some]
      omega
def adrO : Option (Nat × Nat) → Array Value
  | none => #[.bool false, .int .u64 0, .int .u64 0]
  | some p => #[.bool true, .int .u64 (p.1 : Int), .int .u64 (p.2 : Int)]
set_option maxRecDepth 20000 in
set_option maxHeartbeats 8000000 in
theorem six_any (s : List UInt8) (hs : s.length ≤ 80) (w : World) (hm : MaxAt w) :
    Calls Tryd.prog 94 #[.string (str s)] w fun e w' => e = .returned (.tuple #[.agg (adrO (sixF s)), .bool (sixF s).isSome]) ∧ Below w.heap.size w w' := by
  obtain ⟨R, hR⟩ : ∃ R, sixF s = R := ⟨_, rfl⟩
  rw [hR]
  obtain ⟨w1, hw1⟩ : ∃ w1, w.alloc (.cells #[.bool false, .int .u64 0, .int .u64 0] 27) = w1 := ⟨_, rfl⟩
  have hB : Below w.heap.size w w1 := hw1 ▸ (Below.refl _ _).alloc (Nat.le_refl _) _
  have hg : w1.heap[w.heap.size]? = some (.cells #[.bool false, .int .u64 0, .int .u64 0] 27 (0, 0)) := hw1 ▸ blk_new _ _ _
  have hzw : w.heap.size < w1.heap.size := by rw [← hw1]; simp
  have hm1 := hm.below hB
  have hcut := cut_any [58, 58] s (by omega) w1 hm1
  have hcl := cut_len s [58, 58]
  have hRF := hR.symm
  unfold sixF at hRF
  obtain ⟨H, hH⟩ : ∃ x, (Lib.cut s [58, 58]).1 = x := ⟨_, rfl⟩
  obtain ⟨T, hT⟩ : ∃ x, (Lib.cut s [58, 58]).2.1 = x := ⟨_, rfl⟩
  obtain ⟨C, hC⟩ : ∃ x, (Lib.cut s [58, 58]).2.2 = x := ⟨_, rfl⟩
  rw [hH, hT, hC] at hRF hcut
  rw [hH, hT] at hcl
  have hlA := list_any H (by omega)
  have hlB := list_any T (by omega)
  have hn1 := list_len H
  have hn2 := list_len T
  have hL1 := list_lt H
  have hL2 := list_lt T
  obtain ⟨LA, hLA⟩ : ∃ x, listF H = x := ⟨_, rfl⟩
  obtain ⟨LB, hLB⟩ : ∃ x, listF T = x := ⟨_, rfl⟩
  rw [hLA] at hlA hL1 hRF hn1
  rw [hLB] at hlB hL2 hRF hn2
  obtain ⟨x, hx⟩ : ∃ x, LA.isSome = x := ⟨_, rfl⟩
  obtain ⟨y, hy⟩ : ∃ x, LB.isSome = x := ⟨_, rfl⟩
  obtain ⟨la, hla⟩ : ∃ x, LA.getD [] = x := ⟨_, rfl⟩
  obtain ⟨lb, hlb⟩ : ∃ x, LB.getD [] = x := ⟨_, rfl⟩
  rw [hx, hla] at hlA
  rw [hla] at hn1
  rw [hlb] at hn2
  rw [hy, hlb] at hlB
  have hn1 : la.length ≤ 81 := by omega
  have hn2 : lb.length ≤ 81 := by omega
  clear hH hT hC hLA hLB hR hcl
  replace hB := hide hB
  replace hg := hide hg
  replace hcut := hide hcut
  replace hRF := hide hRF
  replace hlA := hide hlA
  replace hlB := hide hlB
  replace hL1 := hide hL1
  replace hL2 := hide hL2
  replace hx := hide hx
  replace hy := hide hy
  replace hla := hide hla
  replace hlb := hide hlb
  replace hm := hide hm
  replace hm1 := hide hm1
  go_enter Tryd.func94, Tryd.ntmps94
  go_wp2_with fail
  clear hw1
  refine hcut.out.mono ?_
  rintro e w2 ⟨rfl, hb2⟩
  have hg2 := blk_below hb2 hzw hg.out
  have hB2 := hB.out.trans (hb2.mono hB.out.size)
  have hz2 := hb2.size
  have hm2 := hm1.out.below hb2
  clear hb2 hcut hg hB hm1
  replace hg2 := hide hg2
  replace hB2 := hide hB2
  replace hm2 := hide hm2
  go_wp2_with fail
  refine (hlA.out w2 hm2.out).mono ?_
  rintro e w3 ⟨va, rfl, hva, hb3⟩
  have hg3 := blk_below hb3 (by omega) hg2.out
  have hB3 := hB2.out.trans (hb3.mono hB2.out.size)
  have hz3 := hb3.size
  have hm3 := hm2.out.below hb3
  clear hb3 hlA hg2 hB2 hm2
  replace hg3 := hide hg3
  replace hB3 := hide hB3
  replace hm3 := hide hm3
  replace hva := hide hva
  go_wp2_with fail
  refine (hlB.out w3 hm3.out).mono ?_
  rintro e w4 ⟨vb, rfl, hvb, hb4⟩
  have hva4 := hva.out.below hb4
  have hg4 := blk_below hb4 (by omega) hg3.out
  have hB4 := hB3.out.trans (hb4.mono hB3.out.size)
  have hz4 := hb4.size
  clear hb4 hlB hg3 hB3 hm3 hva
  obtain ⟨A, ca, rfl, hca, hcam, hxa⟩ := hva4.form
  obtain ⟨A2, cb, rfl, hcb, hcbm, hxb⟩ := hvb.form
  unfold maxLen at hcam hcbm
  replace hg4 := hide hg4
  replace hB4 := hide hB4
  replace hva4 := hide hva4
  replace hvb := hide hvb
  replace hxa := hide hxa
  replace hxb := hide hxb
  obtain ⟨n, hn⟩ : ∃ n, la.length + lb.length = n := ⟨_, rfl⟩
  have wa : IntKind.i64.wrap ((la.length : Int) + (lb.length : Int)) = (n : Int) := by rw [wraps62 _ (by omega) (by omega)]; omega
  obtain ⟨b1, hb1⟩ : ∃ b, decide ((8 : Int) < (n : Int)) = b := ⟨_, rfl⟩
  obtain ⟨b2, hb2⟩ : ∃ b, ((la.length : Int) != 8) = b := ⟨_, rfl⟩
  obtain ⟨BAD, hBAD⟩ : ∃ b, (!x || !y || b1 || (!C && b2)) = b := ⟨_, rfl⟩
  replace hBAD := hide hBAD
  replace hn := hide hn
  go_upto_region 4 with fail
  go_cut [52] (fun bv wx => bv = .bool BAD ∧ w4 = wx)
  case first =>
    have hbad := hBAD.out
    clear hBAD
    replace hbad := hide hbad
    cases x
    · go_wp2_with fail
      go_meet
      exact ⟨by rw [← hbad.out]; rfl, rfl⟩
    cases y
    · go_wp2_with fail
      go_meet
      exact ⟨by rw [← hbad.out]; rfl, rfl⟩
    cases b1
    · cases C
      · cases b2
        · go_wp2_with fail
          go_meet
          exact ⟨by rw [← hbad.out]; rfl, rfl⟩
        · go_wp2_with fail
          go_meet
          exact ⟨by rw [← hbad.out]; rfl, rfl⟩
      · go_wp2_with fail
        go_meet
        exact ⟨by rw [← hbad.out]; rfl, rfl⟩
    · go_wp2_with fail
      go_meet
      exact ⟨by rw [← hbad.out]; rfl, rfl⟩
  case rest =>
    obtain ⟨rfl, rfl⟩ := hcut
    cases BAD
    · have hok : R = some (wordN ((sixG la lb).take 4), wordN ((sixG la lb).drop 4)) ∧ n ≤ 8 ∧ (∀ x ∈ la, x < 65536) ∧ (∀ x ∈ lb, x < 65536) := by
        have h1 := hBAD.out
        have h2 := hRF.out
        have h3 := hx.out
        have h4 := hy.out
        have h5 := hla.out
        have h6 := hlb.out
        have h7 := hL1.out
        have h8 := hL2.out
        have h9 := hn.out
        clear hBAD hRF hx hy hla hlb hL1 hL2 hn
        cases LA with
        | none => cases h3; simp at h1
        | some a =>
          cases LB with
          | none => cases h4; simp at h1
          | some b =>
            cases h3
            cases h4
            cases h5
            cases h6
            simp only [Option.isSome_some, Bool.not_true, Bool.false_or, Option.getD_some] at h1 h9 hb2 ⊢
            rw [Bool.or_eq_false_iff] at h1
            have hb1' : ¬ (8 : Int) < (n : Int) := of_decide_eq_false (hb1.trans h1.1)
            refine ⟨?_, by omega, h7 a rfl, h8 b rfl⟩
            rw [h2]
            dsimp only
            rw [if_neg]
            rintro (h | ⟨h, h'⟩)
            · omega
            · have h10 := h1.2
              rw [h, Bool.not_false, Bool.true_and] at h10
              rw [h10] at hb2
              simp at hb2
              omega
      obtain ⟨hR0, hn8, hl1, hl2⟩ := hok
      have hGl := sixG_len la lb (by have := hn.out; omega)
      have hGs := sixG_splice la lb (by have := hn.out; omega)
      have hGm := sixG_lt la lb hl1 hl2
      obtain ⟨G, hG⟩ : ∃ G, sixG la lb = G := ⟨_, rfl⟩
      rw [hG] at hR0 hGl hGs hGm
      subst hR0
      have hnl := hn.out
      clear hBAD hRF hx hy hla hlb hL1 hL2 hb1 hb2 wa hl1 hl2
      replace hGl := hide hGl
      replace hGs := hide hGs
      replace hGm := hide hGm
      replace hG := hide hG
      go_upto_region 6 with fail
      apply wp_region_lit
      refine Go.Great.wpList_runTo rfl (some 11) rfl _ _ (alloc_g8 _ rfl _ _) ?_
      have hg5 : (w4.alloc (.cells (grA 0 0 0) 119)).heap[w4.heap.size]? = some (.cells ((List.replicate 8 0).map u64v).toArray 119 (0, 0)) := blk_new _ _ _
      have hb5 : Below w4.heap.size w4 (w4.alloc (.cells (grA 0 0 0) 119)) := (Below.refl _ _).alloc (Nat.le_refl _) _
      have hz5 : w4.heap.size < (w4.alloc (.cells (grA 0 0 0) 119)).heap.size := by simp
      obtain ⟨w5, hw5⟩ : ∃ w5, w4.alloc (.cells (grA 0 0 0) 119) = w5 := ⟨_, rfl⟩
      rw [hw5] at hg5 hb5 hz5 ⊢
      clear hw5
      have hz4' := hB4.out.size
      have hzw4 : w.heap.size < w4.heap.size := by omega
      have hr5 := blk_below hb5 (by omega) hg4.out
      have hB5 := hB4.out.trans (hb5.mono hB4.out.size)
      clear hva4 hvb
      replace hg5 := hide hg5
      replace hr5 := hide hr5
      replace hB5 := hide hB5
      replace hb5 := hide hb5
      refine wpList_nil ?_
      go_simp
      go_upto_region 7 with fail
      apply wp_region_lit
      iterate 2 (refine wpList_plain rfl fun K hK => ?_; go_simp; refine hK _ _ ?_; clear hK K)
      refine wpl_copy_u64 rfl (.tmp 54) (.tmp 55) rfl w4.heap.size 0 8 8 la.length ca w4.heap.size (some ⟨w4.heap.size, 0, none⟩) A (List.replicate 8 0) la rfl rfl hg5.out (IsV.below hxa.out hb5.out) (fun _ => rfl) (by rw [List.length_replicate]; omega) (by omega) fun w6 hg6 hb6 => ?_
      have hr6 := hb6.block _ hzw4 |>.trans hr5.out
      have hB6 := hB5.out.trans (hb6.mono hz4')
      have hz6' := hb6.size
      have hb6 := hb5.out.trans hb6
      have hz6 := hb6.size
      clear hr5 hB5 hb5 hg5 hxa
      replace hg6 := hide hg6
      replace hr6 := hide hr6
      replace hB6 := hide hB6
      replace hb6 := hide hb6
      refine wpList_nil ?_
      go_simp
      obtain ⟨p, hp⟩ : ∃ p, 8 - lb.length = p := ⟨_, rfl⟩
      have wp : IntKind.i64.wrap (8 - (lb.length : Int)) = (p : Int) := by rw [wraps62 _ (by omega) (by omega)]; omega
      have hp8 : p ≤ 8 := by omega
      have hp0 : (0 : Int) ≤ (p : Int) := by omega
      have hp8i : (p : Int) ≤ 8 := by omega
      go_upto_region 8 with fail
      go_cut [] (fun wx => wx.heap[w4.heap.size]? = some (.cells (G.map u64v).toArray 119 (0, 0)) ∧ Below w4.heap.size w6 wx)
      case first =>
        by_cases hpe : p = 8
        · have hl0 : lb.length = 0 := by omega
          have wp8 : IntKind.i64.wrap (8 - (lb.length : Int)) = 8 := by rw [wraps62 _ (by omega) (by omega)]; omega
          clear wp hp8 hp8i hp0
          replace hl0 := hide hl0
          replace hpe := hide hpe
          apply wp_region_lit
          iterate 5 (refine wpList_plain rfl fun K hK => ?_; go_simp; refine hK _ _ ?_; clear hK K)
          refine wpl_copy_u64 rfl (.tmp 60) (.tmp 61) rfl w4.heap.size 8 0 0 lb.length cb w4.heap.size _ A2 _ lb rfl rfl hg6.out (IsV.below hxb.out hb6.out) (fun h => absurd h (by rw [hl0.out]; omega)) (by rw [hl0.out, length_splice _ _ _ (by rw [List.length_replicate]; omega), List.length_replicate]; omega) (by rw [hl0.out]; omega) fun w7 hg7 hb7 => ?_
          rw [show (8 : Nat) = 8 - lb.length by rw [hl0.out], show (List.replicate (8 - lb.length) 0) = List.replicate 8 0 by rw [hl0.out], hGs.out] at hg7
          clear hl0 hpe
          replace hg7 := hide hg7
          replace hb7 := hide hb7
          refine wpList_nil ?_
          go_wp2_with fail
          go_meet
          exact ⟨hg7.out, hb7.out⟩
        · have hpe' : ¬ 8 = p := by omega
          apply wp_region_lit
          iterate 5 (refine wpList_plain rfl fun K hK => ?_; go_simp; refine hK _ _ ?_; clear hK K)
          refine wpl_copy_u64 rfl (.tmp 60) (.tmp 61) rfl w4.heap.size p (8 - p) (8 - p) lb.length cb w4.heap.size (some ⟨w4.heap.size, p, none⟩) A2 _ lb rfl rfl hg6.out (IsV.below hxb.out hb6.out) (fun _ => rfl) (by rw [length_splice _ _ _ (by rw [List.length_replicate]; omega), List.length_replicate]; omega) (by omega) fun w7 hg7 hb7 => ?_
          rw [← hp, hGs.out] at hg7
          clear hpe hpe'
          replace hg7 := hide hg7
          replace hb7 := hide hb7
          refine wpList_nil ?_
          go_wp2_with fail
          go_meet
          exact ⟨hg7.out, hb7.out⟩
      case rest =>
        obtain ⟨hg7, hb7⟩ := hcut
        have hr7 := hb7.block _ hzw4 |>.trans hr6.out
        have hB7 := hB6.out.trans (hb7.mono hz4')
        have hz7 := hb7.size
        clear hr6 hB6 hb6 hg6 hxb hb7 wp hp8 hp8i hp0 hp
        replace hg7 := hide hg7
        replace hr7 := hide hr7
        replace hB7 := hide hB7
        go_upto_region 9 with fail
        apply wp_region_lit
        iterate 1 (refine wpList_plain rfl fun K hK => ?_; go_simp; refine hK _ _ ?_; clear hK K)
        have hzc : w4.heap.size < wc.heap.size := by omega
        refine wpl_new rfl rfl 27 _ (alloc_adr _ rfl) 12 rfl (.tmp 63) rfl _ (fun _ => rfl) (fun _ => rfl) rfl (by kernel_rfl) (adr_one true 0 0) ?_
        intro w8 hg8 hb8 hz8
        have hG8 := blk_below hb8 hzc hg7.out
        have hr8 := blk_below hb8 (by omega) hr7.out
        have hB8 := hB7.out.trans (hb8.mono hB7.out.size)
        clear hg7 hr7 hB7 hb8
        replace hg8 := hide hg8
        replace hG8 := hide hG8
        replace hr8 := hide hr8
        replace hB8 := hide hB8
        refine wpList_nil ?_
        go_simp
        obtain ⟨gg, hgg⟩ : ∃ x, w4.heap.size = x := ⟨_, rfl⟩
        obtain ⟨oo, hoo⟩ : ∃ x, wc.heap.size = x := ⟨_, rfl⟩
        rw [hgg] at hzc hG8 hzw4 ⊢
        rw [hoo] at hzc hg8 hz8 ⊢
        replace hgg := hide hgg
        replace hoo := hide hoo
        go_upto_block 2 with fail
        go_loopw [13, 64] (fun _ iv wr => ∃ k : Nat, k ≤ 4 ∧ iv = .int .i64 (k : Int) ∧ wr.heap[w.heap.size]? = some (.cells #[.bool false, .int .u64 0, .int .u64 0] 27 (0, 0)) ∧ wr.heap[gg]? = some (.cells (G.map u64v).toArray 119 (0, 0)) ∧ wr.heap[oo]? = some (.cells #[.bool true, .int .u64 ((wordN (G.take k) : Nat) : Int), .int .u64 ((wordN ((G.drop 4).take k) : Nat) : Int)] 27 (0, 0)) ∧ Below w.heap.size w wr ∧ oo < wr.heap.size) (fun _ iv _ => 4 - (intOf iv).toNat)
        case atStart => exact ⟨0, by omega, rfl, hr8.out, hG8.out, hg8.out, hB8.out, hz8⟩
        case round =>
          obtain ⟨k, hk, rfl, hrs, hgG, hgO, hBr, hzr⟩ := hrel
          clear hg8 hG8 hr8 hB8
          by_cases hk4 : k < 4
          · have i1 : (k : Int) < 4 := by omega
            have i2 : (0 : Int) ≤ (k : Int) := by omega
            have hG8l := hGl.out
            obtain ⟨k4, hk4'⟩ : ∃ x, k + 4 = x := ⟨_, rfl⟩
            have wa : IntKind.i64.wrap ((k : Int) + 4) = (k4 : Int) := by rw [wraps62 _ (by omega) (by omega)]; omega
            obtain ⟨v1, hv1⟩ : ∃ v, G[k]? = some v := ⟨_, List.getElem?_eq_getElem (by omega)⟩
            obtain ⟨v2, hv2⟩ : ∃ v, G[k4]? = some v := ⟨_, List.getElem?_eq_getElem (by omega)⟩
            have hv2' : (G.drop 4)[k]? = some v2 := by rw [List.getElem?_drop, Nat.add_comm, hk4', hv2]
            have hv1l := hGm.out v1 (List.mem_of_getElem? hv1)
            have hv2l := hGm.out v2 (List.mem_of_getElem? hv2)
            have eG1 : ((G.map u64v).toArray)[k]? = some (.int .u64 (v1 : Int)) := by rw [List.getElem?_toArray, List.getElem?_map, hv1]; rfl
            have eG2 : ((G.map u64v).toArray)[k4]? = some (.int .u64 (v2 : Int)) := by rw [List.getElem?_toArray, List.getElem?_map, hv2]; rfl
            have s1 := wordN_snoc G k v1 hv1
            have s2 := wordN_snoc (G.drop 4) k v2 hv2'
            have l1 := wordN_take G k hGm.out (by omega)
            have l2 := wordN_take (G.drop 4) k (fun x hx => hGm.out x (List.mem_of_mem_drop hx)) (by omega)
            obtain ⟨n1, hn1'⟩ : ∃ x, wordN (G.take k) = x := ⟨_, rfl⟩
            obtain ⟨n2, hn2'⟩ : ∃ x, wordN ((G.drop 4).take k) = x := ⟨_, rfl⟩
            rw [hn1'] at s1 l1 hgO
            rw [hn2'] at s2 l2 hgO
            have o1 := u64_or16 n1 v1 hv1l l1
            have o2 := u64_or16 n2 v2 hv2l l2
            have x1 : IntKind.u64.wrap ((n1 : Int) * 65536) = ((n1 * 65536 : Nat) : Int) := by rw [IntKind.wrap_u64]; omega
            have x2 : IntKind.u64.wrap ((n2 : Int) * 65536) = ((n2 * 65536 : Nat) : Int) := by rw [IntKind.wrap_u64]; omega
            rw [← s1] at o1
            rw [← s2] at o2
            obtain ⟨m1, hm1'⟩ : ∃ x, n1 * 65536 = x := ⟨_, rfl⟩
            obtain ⟨m2, hm2'⟩ : ∃ x, n2 * 65536 = x := ⟨_, rfl⟩
            obtain ⟨p1, hp1⟩ : ∃ x, wordN (G.take (k + 1)) = x := ⟨_, rfl⟩
            obtain ⟨p2, hp2⟩ : ∃ x, wordN ((G.drop 4).take (k + 1)) = x := ⟨_, rfl⟩
            rw [hm1'] at o1 x1
            rw [hm2'] at o2 x2
            rw [hp1] at o1
            rw [hp2] at o2
            have i5 : (k4 : Int) < 8 := by omega
            have i6 : (k : Int) < 8 := by omega
            have i7 : (0 : Int) ≤ (k4 : Int) := by omega
            clear s1 s2 l1 l2 hv1 hv2 hv2'
            replace hrs := hide hrs
            replace hgG := hide hgG
            replace hgO := hide hgO
            replace hBr := hide hBr
            replace hp1 := hide hp1
            replace hp2 := hide hp2
            replace hm1' := hide hm1'
            replace hm2' := hide hm2'
            replace hn1' := hide hn1'
            replace hn2' := hide hn2'
            replace hk4' := hide hk4'
            go_wp2_with fail
            refine wp_region_W [16, 18] wr.heap.size (fun j => j = oo) (by as_aux_lemma => kernel_rfl) ?_
            intro wd hbd
            have hzd := hbd.size
            have hOd := blk_below hbd (by omega) hgO.out
            have hGd := blk_below hbd (by omega) hgG.out
            have hRd := blk_below hbd (by have := hzr; omega) hrs.out
            have hBd := hBr.out.trans (hbd.mono hBr.out.size)
            obtain ⟨w16, e16, hg16, gr16⟩ := store_cell hOd 1 (.int .u64 (p1 : Int))
            have hg16 : w16.heap[oo]? = some (.cells #[.bool true, .int .u64 (p1 : Int), .int .u64 (n2 : Int)] 27 (0, 0)) := hg16
            obtain ⟨w18, e18, hg18, gr18⟩ := store_cell hg16 2 (.int .u64 (p2 : Int))
            have hg18 : w18.heap[oo]? = some (.cells #[.bool true, .int .u64 (p1 : Int), .int .u64 (p2 : Int)] 27 (0, 0)) := hg18
            have hA1 := fun (l : KeptSW wr.heap.size (fun _ => False) wd) => blk_cell (l.blk hOd (by omega) id) 1
            have hA2 := fun (l : KeptSW wr.heap.size (fun _ => False) wd) => blk_cell (l.blk hOd (by omega) id) 2
            have hA3 := fun (l : KeptSW wr.heap.size (fun _ => False) wd) => (blk_cell (l.blk hGd (by omega) id) k).trans eG1
            have hA4 := fun (l : KeptSW wr.heap.size (fun j => j = oo) wd) => (blk_cell (l.blk hGd (by omega) (by omega)) k4).trans eG2
            have c16 := blk_cell hOd 1
            have c18 := blk_cell hg16 2
            have f16 := blk_free hOd 1
            have f18 := blk_free hg16 2
            replace hg16 := hide hg16
            replace hg18 := hide hg18
            replace gr16 := hide gr16
            replace gr18 := hide gr18
            replace hOd := hide hOd
            replace hGd := hide hGd
            replace hRd := hide hRd
            replace hBd := hide hBd
            replace hbd := hide hbd
            replace eG1 := hide eG1
            replace eG2 := hide eG2
            refine wpWH_seg [16, 18] wr.heap.size (fun j => j = oo) 0 9 (fuel := 10) (by as_aux_lemma => kernel_rfl) (fun d _ _ _ _ h => by cases d <;> exact h) (by as_aux_lemma => kernel_rfl) (by as_aux_lemma => kernel_rfl) (by as_aux_lemma => kernel_rfl) ?_
            simp only [List.drop_zero, List.take_succ_cons, List.take_zero]
            iterate 9 (refine wpQS_step (fun K hK => ?_); go_simp; refine hK _ ?_; clear hK K)
            refine wpQF_nil ?_
            refine wpWS_seg [16, 18] wr.heap.size (fun j => j = oo) 9 6 (fuel := 4) (by as_aux_lemma => kernel_rfl) (fun d _ _ _ _ h => by cases d <;> exact h) (by as_aux_lemma => kernel_rfl) (by as_aux_lemma => kernel_rfl) ?_
            simp only [List.drop_succ_cons, List.drop_zero, List.take_succ_cons, List.take_zero]
            iterate 6 (refine wpQS_step (fun K hK => ?_); go_simp; refine hK _ ?_; clear hK K)
            refine wpQF_nil ?_
            clear hA1 hA2 hA3 hA4
            refine wpW_step 15 rfl (by as_aux_lemma => kernel_rfl) (fun K hK => ?_)
            go_simp
            refine hK _ _ (relS_refl _ _ _ _ _) ?_
            clear hK K
            refine wpW_step 16 rfl (by as_aux_lemma => kernel_rfl) (fun K hK => ?_)
            go_simp
            refine hK _ _ (relS_of rfl ⟨gr16.out.os, gr16.out.tape, gr16.out.output, gr16.out.size, fun j hj hne => gr16.out.block j (by omega) (fun e => hne (by cases e; rfl))⟩) ?_
            clear hK K
            refine wpW_step 17 rfl (by as_aux_lemma => kernel_rfl) (fun K hK => ?_)
            go_simp
            refine hK _ _ (relS_refl _ _ _ _ _) ?_
            clear hK K
            refine wpW_step 18 rfl (by as_aux_lemma => kernel_rfl) (fun K hK => ?_)
            go_simp
            refine hK _ _ (relS_of rfl ⟨gr18.out.os, gr18.out.tape, gr18.out.output, gr18.out.size, fun j hj hne => gr18.out.block j (by have := gr16.out.size; omega) (fun e => hne (by cases e; rfl))⟩) ?_
            clear hK K
            refine wpW_done (by as_aux_lemma => kernel_rfl) ?_ _
            clear e16 e18 c16 c18 f16 f18
            have hz16 := gr16.out.size
            have hz18 := gr18.out.size
            have hG18 := grown_other gr18.out (by omega) (by omega) (grown_other gr16.out (by omega) (by omega) hGd.out)
            have hR18 := grown_other gr18.out (by omega) (by omega) (grown_other gr16.out (by omega) (by omega) hRd.out)
            have hB18 : Below w.heap.size w w18 := (hBd.out.trans (below_grown gr16.out (by omega) (by omega))).trans (below_grown gr18.out (by omega) (by omega))
            have hO18 := hg18.out
            rw [← hp1.out, ← hp2.out] at hO18
            clear hg16 hg18 gr16 gr18 hOd hGd hRd hBd hbd hrs hgG hgO hBr hp1 hp2
            replace hG18 := hide hG18
            replace hR18 := hide hR18
            replace hB18 := hide hB18
            replace hO18 := hide hO18
            go_wp2_with fail
            refine ⟨⟨k + 1, by omega, by first | rfl | go_num, hR18.out, hG18.out, hO18.out, hB18.out, by omega⟩, by simp only [intOf]; omega⟩
          · have hk9 : k = 4 := by omega
            subst hk9
            have t8 : (G.drop 4).take 4 = G.drop 4 := List.take_of_length_le (by rw [List.length_drop, hGl.out]; decide)
            rw [t8] at hgO
            obtain ⟨N1, hN1⟩ : ∃ x, wordN (G.take 4) = x := ⟨_, rfl⟩
            obtain ⟨N2, hN2⟩ : ∃ x, wordN (G.drop 4) = x := ⟨_, rfl⟩
            rw [hN1, hN2] at hgO
            replace hrs := hide hrs
            replace hgG := hide hgG
            replace hgO := hide hgO
            replace hBr := hide hBr
            replace hN1 := hide hN1
            replace hN2 := hide hN2
            go_upto_region 15 with fail
            apply wp_region_lit
            refine wpl_ld rfl 27 (.tmp 12) rfl oo rfl _ _ hgO.out Tryd.underlying27 rfl (by kernel_rfl) ?_
            refine wpl_st rfl 27 (.tmp 2) (.tmp 85) rfl (w.heap.size) 0 rfl (#[.bool true, .int .u64 (N1 : Int), .int .u64 (N2 : Int)]) rfl hrs.out (by simp) (by kernel_rfl) (adr_one _ _ _) fun w9 hg9 g9 => ?_
            rw [putA_whole _ _ (by rfl)] at hg9
            have hb9 : Below (w.heap.size) w w9 := (hBr.out).trans (below_grown g9 (by have := (hBr.out).size; omega) (Nat.le_refl _))
            have hld : (loadVar 27 ⟨w.heap.size, 0, none⟩).run Tryd.prog w9 = .ok (.agg (#[.bool true, .int .u64 (N1 : Int), .int .u64 (N2 : Int)])) w9 := by
              simpa using run_loadVar_mid w9 (w.heap.size) 0 27 (#[.bool true, .int .u64 (N1 : Int), .int .u64 (N2 : Int)]).toList _ (blk_range hg9) Tryd.underlying27 rfl (by kernel_rfl)
            clear hg9 g9
            replace hld := hide hld
            replace hb9 := hide hb9
            iterate 1 (refine wpList_plain rfl fun K hK => ?_; go_simp; refine hK _ _ ?_; clear hK K)
            refine wpList_nil ?_
            go_simp
            go_wp2_with fail
            exact bodyPost_ret (v := .tuple #[.agg #[.bool true, .int .u64 (N1 : Int), .int .u64 (N2 : Int)], .bool true]) (by simp [results, Tryd.results94, asAddr, hld.out, Result.andThen]) rfl ⟨by rw [hN1.out, hN2.out]; rfl, hb9.out⟩
    · have hR0 : R = none := by
        have h1 := hBAD.out
        have h2 := hRF.out
        have h3 := hx.out
        have h4 := hy.out
        have h5 := hla.out
        have h6 := hlb.out
        have h9 := hn.out
        clear hBAD hRF hx hy hla hlb hL1 hL2 hn
        rw [h2]
        cases LA with
        | none => rfl
        | some a =>
          cases LB with
          | none => rfl
          | some b =>
            cases h3
            cases h4
            cases h5
            cases h6
            simp only [Option.isSome_some, Bool.not_true, Bool.false_or, Option.getD_some] at h1 h9 hb2 ⊢
            rw [if_pos]
            rw [Bool.or_eq_true] at h1
            rcases h1 with h | h
            · rw [h] at hb1
              have := of_decide_eq_true hb1
              exact .inl (by omega)
            · rw [Bool.and_eq_true] at h
              refine .inr ⟨by simpa using h.1, ?_⟩
              rw [h.2] at hb2
              simp at hb2
              omega
      subst hR0
      clear hBAD hRF hx hy hla hlb hL1 hL2 hb1 hb2 wa hn hxa hxb hva4 hvb
      go_upto_region 5 with fail
      apply wp_region_lit
      iterate 1 (refine wpList_plain rfl fun K hK => ?_; go_simp; refine hK _ _ ?_; clear hK K)
      refine wpl_st rfl 27 (.tmp 2) (.tmp 53) rfl (w.heap.size) 0 rfl (#[.bool false, .int .u64 0, .int .u64 0]) rfl hg4.out (by simp) (by kernel_rfl) (adr_one _ _ _) fun w9 hg9 g9 => ?_
      rw [putA_whole _ _ (by rfl)] at hg9
      have hb9 : Below (w.heap.size) w w9 := (hB4.out).trans (below_grown g9 (by have := (hB4.out).size; omega) (Nat.le_refl _))
      have hld : (loadVar 27 ⟨w.heap.size, 0, none⟩).run Tryd.prog w9 = .ok (.agg (#[.bool false, .int .u64 0, .int .u64 0])) w9 := by
        simpa using run_loadVar_mid w9 (w.heap.size) 0 27 (#[.bool false, .int .u64 0, .int .u64 0]).toList _ (blk_range hg9) Tryd.underlying27 rfl (by kernel_rfl)
      clear hg9 g9
      replace hld := hide hld
      replace hb9 := hide hb9
      iterate 1 (refine wpList_plain rfl fun K hK => ?_; go_simp; refine hK _ _ ?_; clear hK K)
      refine wpList_nil ?_
      go_simp
      go_wp2_with fail
      exact bodyPost_ret (v := .tuple #[.agg #[.bool false, .int .u64 0, .int .u64 0], .bool false]) (by simp [results, Tryd.results94, asAddr, hld.out, Result.andThen]) rfl ⟨rfl, hb9.out⟩
end Addr05
end Go.Proofs.YtcpokkkdmenmgaaDoor
/- addr: Parse: the address that a text is. Condition: the cell of bytealg.MaxLen, a text of at most 80 bytes. -/
namespace Go.Proofs.YtcpokkkdmenmgaaDoor
open Go.RowKit Go.ChangeShapes Go.WideShapes Go.ChangeAt Go.Deep
namespace Addr05
def Adr.arr (a : Adr) : Array Value := #[.bool a.v6, .int .u64 (a.hi : Int), .int .u64 (a.lo : Int)]
def adrP : Option Adr → Array Value
  | none => #[.bool false, .int .u64 0, .int .u64 0]
  | some a => a.arr
def errP (r : Option Adr) : Int := if r.isSome then 0 else 18
def pickT (s : List UInt8) : Option Adr → Option Adr
  | none => none
  | some a => if textA a = s then some a else none
theorem parseF_pick (s : List UInt8) (h : ¬ 39 < s.length) : parseF s = pickT s (rawF s) := by
  unfold parseF
  rw [if_neg h]
  cases rawF s <;> rfl
/-- What lies in the variable behind both readings. -/
def RawAt (S g : Nat) (r : Option Adr) (w wx : World) : Prop := ∃ a : Adr, wx.heap[g]? = some (.cells a.arr 27 (0, 0)) ∧ (∀ b, r = some b → b = a) ∧ wx.heap[S]? = some (.cells #[.bool false, .int .u64 0, .int .u64 0] 27 (0, 0)) ∧ Below S w wx ∧ g < wx.heap.size
theorem six_arr (s : List UInt8) : ∃ a : Adr, adrO (sixF s) = a.arr ∧ ∀ p, sixF s = some p → a = ⟨true, p.1, p.2⟩ := by
  cases h : sixF s with
  | none => exact ⟨⟨false, 0, 0⟩, rfl, fun p e => by cases e⟩
  | some p => exact ⟨⟨true, p.1, p.2⟩, rfl, fun q e => by cases e; rfl⟩
set_option maxRecDepth 20000 in
set_option maxHeartbeats 8000000 in
theorem Parse_any (s : List UInt8) (hs : s.length ≤ 65536) (w : World) (hm : MaxAt w) :
    Calls Tryd.prog 82 #[.string (str s)] w fun e w' => e = .returned (.tuple #[.agg (adrP (parseF s)), .int .i64 (errP (parseF s))]) ∧ Below w.heap.size w w' := by
  obtain ⟨w1, hw1⟩ : ∃ w1, w.alloc (.cells #[.bool false, .int .u64 0, .int .u64 0] 27) = w1 := ⟨_, rfl⟩
  have hB : Below w.heap.size w w1 := hw1 ▸ (Below.refl _ _).alloc (Nat.le_refl _) _
  have hg : w1.heap[w.heap.size]? = some (.cells #[.bool false, .int .u64 0, .int .u64 0] 27 (0, 0)) := hw1 ▸ blk_new _ _ _
  have hzw : w.heap.size < w1.heap.size := by rw [← hw1]; simp
  have hz : (str s).size = s.length := size_str s
  have hm1 := hm.below hB
  by_cases h39 : 39 < s.length
  · have hR : parseF s = none := by unfold parseF; rw [if_pos h39]
    rw [hR]
    have t1 : decide ((39 : Int) < (s.length : Int)) = true := by rw [decide_eq_true_eq]; omega
    replace hR := hide hR
    replace h39 := hide h39
    replace hB := hide hB
    replace hg := hide hg
    replace hm1 := hide hm1
    replace hm := hide hm
    go_enter Tryd.func82, Tryd.ntmps82
    go_upto_region 2 with fail
    clear hw1
    apply wp_region_lit
    iterate 1 (refine wpList_plain rfl fun K hK => ?_; go_simp; refine hK _ _ ?_; clear hK K)
    refine wpl_st rfl 27 (.tmp 2) (.tmp 9) rfl (w.heap.size) 0 rfl (#[.bool false, .int .u64 0, .int .u64 0]) rfl hg.out (by simp) (by kernel_rfl) (adr_one _ _ _) fun w9 hg9 g9 => ?_
    rw [putA_whole _ _ (by rfl)] at hg9
    have hb9 : Below (w.heap.size) w w9 := (hB.out).trans (below_grown g9 (by have := (hB.out).size; omega) (Nat.le_refl _))
    have hld : (loadVar 27 ⟨w.heap.size, 0, none⟩).run Tryd.prog w9 = .ok (.agg (#[.bool false, .int .u64 0, .int .u64 0])) w9 := by
      simpa using run_loadVar_mid w9 (w.heap.size) 0 27 (#[.bool false, .int .u64 0, .int .u64 0]).toList _ (blk_range hg9) Tryd.underlying27 rfl (by kernel_rfl)
    clear hg9 g9
    replace hld := hide hld
    replace hb9 := hide hb9
    iterate 1 (refine wpList_plain rfl fun K hK => ?_; go_simp; refine hK _ _ ?_; clear hK K)
    refine wpList_nil ?_
    go_simp
    go_wp2_with fail
    exact bodyPost_ret (v := .tuple #[.agg #[.bool false, .int .u64 0, .int .u64 0], .int .i64 18]) (by simp [results, Tryd.results82, asAddr, hld.out, Result.andThen]) rfl ⟨rfl, hb9.out⟩
  have t1 : decide ((39 : Int) < (s.length : Int)) = false := by rw [decide_eq_false_iff_not]; omega
  obtain ⟨RW, hRW⟩ : ∃ r, rawF s = r := ⟨_, rfl⟩
  have hPF := parseF_pick s h39
  rw [hRW] at hPF
  have hrok : ∀ a, RW = some a → a.ok := fun a h => (raw_ok s a (hRW.trans h)).1
  have hRW2 := hRW
  unfold rawF at hRW2
  obtain ⟨PF, hPF'⟩ : ∃ x, parseF s = x := ⟨_, rfl⟩
  rw [hPF'] at hPF
  rw [hPF']
  have hs : s.length ≤ 80 := by omega
  have hfour := four_any s hs w1 hm1
  obtain ⟨c, hc⟩ : ∃ c, decide (0 ≤ Lib.indexByte s 58) = c := ⟨_, rfl⟩
  have hcon : ∀ w : World, Calls Tryd.prog 93 #[.string (str s), .string ⟨#[58]⟩] w fun e w' => e = .returned (.bool c) ∧ w' = w := by
    intro w
    rw [← hc]
    exact Tryd.strings_Contains_one (str s) 58 w
  obtain ⟨F1, hF1⟩ : ∃ x, (fourF s).1 = x := ⟨_, rfl⟩
  obtain ⟨F2, hF2⟩ : ∃ x, (fourF s).2 = x := ⟨_, rfl⟩
  rw [hF1, hF2] at hfour hRW2
  have hsix := six_any s hs
  obtain ⟨X, hX1, hX2⟩ := six_arr s
  obtain ⟨S6, hS6⟩ : ∃ x, sixF s = x := ⟨_, rfl⟩
  rw [hS6] at hsix hX1 hX2 hRW2
  rw [hX1] at hsix
  have e0 : c = true → RW = S6.map fun p => ⟨true, p.1, p.2⟩ := fun h => by rw [h] at hc; rw [← hRW2, if_pos (of_decide_eq_true hc)]
  have e1 : c = false → RW = if F2 = true then some ⟨false, 0, F1⟩ else none := fun h => by rw [h] at hc; rw [← hRW2, if_neg (of_decide_eq_false hc)]
  obtain ⟨x6, hx6⟩ : ∃ x, S6.isSome = x := ⟨_, rfl⟩
  rw [hx6] at hsix
  clear hRW2 hc hX1 hPF' hF1 hF2 hS6 hRW
  replace hB := hide hB
  replace hg := hide hg
  replace hm1 := hide hm1
  replace hm := hide hm
  replace hPF := hide hPF
  replace hrok := hide hrok
  replace hfour := hide hfour
  replace hcon := hide hcon
  replace hsix := hide hsix
  replace hX2 := hide hX2
  replace e0 := hide e0
  replace e1 := hide e1
  replace hx6 := hide hx6
  replace h39 := hide h39
  go_enter Tryd.func82, Tryd.ntmps82
  go_upto_region 3 with fail
  clear hw1
  apply wp_region_lit
  iterate 1 (refine wpList_plain rfl fun K hK => ?_; go_simp; refine hK _ _ ?_; clear hK K)
  refine wpList_plain rfl fun K hK => ?_
  go_simp
  refine (hfour.out).mono ?_
  rintro e w2 ⟨rfl, hb2⟩
  have hg2 := blk_below hb2 hzw hg.out
  have hB2 := hB.out.trans (hb2.mono hB.out.size)
  have hz2 := hb2.size
  have hm2 := hm1.out.below hb2
  clear hb2 hfour hg hB hm1
  replace hg2 := hide hg2
  replace hB2 := hide hB2
  replace hm2 := hide hm2
  go_simp
  refine hK _ _ ?_
  clear hK K
  iterate 3 (refine wpList_plain rfl fun K hK => ?_; go_simp; refine hK _ _ ?_; clear hK K)
  refine wpl_new rfl rfl 27 _ (alloc_adr _ rfl) 4 rfl (.tmp 13) rfl _ (fun _ => rfl) (fun _ => rfl) rfl (by kernel_rfl) (adr_one false 0 (F1 : Int)) ?_
  intro w3 hg3 hb3 hz3
  have hr3 := blk_below hb3 (by omega) hg2.out
  have hB3 := hB2.out.trans (hb3.mono hB2.out.size)
  have hm3 := hm2.out.below hb3
  clear hb3 hg2 hB2 hm2
  replace hg3 := hide hg3
  replace hr3 := hide hr3
  replace hB3 := hide hB3
  replace hm3 := hide hm3
  iterate 1 (refine wpList_plain rfl fun K hK => ?_; go_simp; refine hK _ _ ?_; clear hK K)
  refine wpList_nil ?_
  go_simp
  obtain ⟨gg, hgg⟩ : ∃ x, w2.heap.size = x := ⟨_, rfl⟩
  rw [hgg] at hg3 hz3 hz2 ⊢
  obtain ⟨ok, hok⟩ : ∃ b, RW.isSome = b := ⟨_, rfl⟩
  replace hgg := hide hgg
  replace hok := hide hok
  go_wp2_with fail
  refine (hcon.out w3).mono ?_
  rintro e w4 ⟨rfl, rfl⟩
  go_upto_if 16 with fail
  go_cut [5] (fun bv wx => bv = .bool ok ∧ RawAt w.heap.size gg RW w wx)
  case first =>
    cases c
    · have e2 := e1.out rfl
      replace e2 := hide e2
      go_wp2_with fail
      go_meet
      refine ⟨?_, ⟨⟨false, 0, F1⟩, hg3.out, fun b h => ?_, hr3.out, hB3.out, by omega⟩⟩
      · rw [← hok.out, e2.out]
        cases F2 <;> rfl
      · rw [e2.out] at h
        split at h
        · cases h; rfl
        · cases h
    · have e2 := e0.out rfl
      replace e2 := hide e2
      go_upto_region 5 with fail
      apply wp_region_lit
      iterate 1 (refine wpList_plain rfl fun K hK => ?_; go_simp; refine hK _ _ ?_; clear hK K)
      refine wpList_plain rfl fun K hK => ?_
      go_simp
      refine (hsix.out w4 hm3.out).mono ?_
      rintro e w5 ⟨rfl, hb5⟩
      have hg5 := blk_below hb5 (by omega) hg3.out
      have hr5 := blk_below hb5 (by omega) hr3.out
      have hB5 := hB3.out.trans (hb5.mono hB3.out.size)
      have hz5 := hb5.size
      clear hb5 hsix hg3 hr3 hB3
      replace hg5 := hide hg5
      replace hr5 := hide hr5
      replace hB5 := hide hB5
      go_simp
      refine hK _ _ ?_
      clear hK K
      iterate 3 (refine wpList_plain rfl fun K hK => ?_; go_simp; refine hK _ _ ?_; clear hK K)
      refine wpl_st rfl 27 (.tmp 4) (.tmp 20) rfl gg 0 rfl X.arr rfl hg5.out (by simp [Adr.arr]) (by kernel_rfl) (adr_one _ _ _) fun w6 hg6 g6 => ?_
      rw [putA_whole _ _ (by rfl)] at hg6
      have hr6 := grown_other g6 (by omega) (by omega) hr5.out
      have hB6 : Below w.heap.size w w6 := hB5.out.trans (below_grown g6 (by omega) (by omega))
      have hz6 := g6.size
      clear g6 hg5 hr5 hB5
      replace hg6 := hide hg6
      replace hr6 := hide hr6
      replace hB6 := hide hB6
      iterate 1 (refine wpList_plain rfl fun K hK => ?_; go_simp; refine hK _ _ ?_; clear hK K)
      refine wpList_nil ?_
      go_wp2_with fail
      go_meet
      refine ⟨?_, ⟨X, hg6.out, fun b h => ?_, hr6.out, hB6.out, by omega⟩⟩
      · rw [← hok.out, ← hx6.out, e2.out]
        cases S6 <;> rfl
      · rw [e2.out] at h
        obtain ⟨p, hp, rfl⟩ := Option.map_eq_some_iff.1 h
        exact (hX2.out p hp).symm
  case rest =>
    obtain ⟨rfl, a, hga, hab, hr, hBc, hzc⟩ := hcut
    clear hg3 hr3 hB3 hsix hX2 e0 e1 hx6 hcon hm3
    replace hga := hide hga
    replace hr := hide hr
    replace hBc := hide hBc
    have hgl : w.heap.size < gg := by omega
    cases RW with
    | none =>
      obtain rfl : false = ok := hok.out
      obtain rfl : PF = none := hPF.out
      clear hok hPF hrok hab
      go_upto_region 7 with fail
      apply wp_region_lit
      iterate 1 (refine wpList_plain rfl fun K hK => ?_; go_simp; refine hK _ _ ?_; clear hK K)
      refine wpl_st rfl 27 (.tmp 2) (.tmp 30) rfl (w.heap.size) 0 rfl (#[.bool false, .int .u64 0, .int .u64 0]) rfl hr.out (by simp) (by kernel_rfl) (adr_one _ _ _) fun w9 hg9 g9 => ?_
      rw [putA_whole _ _ (by rfl)] at hg9
      have hb9 : Below (w.heap.size) w w9 := (hBc.out).trans (below_grown g9 (by have := (hBc.out).size; omega) (Nat.le_refl _))
      have hld : (loadVar 27 ⟨w.heap.size, 0, none⟩).run Tryd.prog w9 = .ok (.agg (#[.bool false, .int .u64 0, .int .u64 0])) w9 := by
        simpa using run_loadVar_mid w9 (w.heap.size) 0 27 (#[.bool false, .int .u64 0, .int .u64 0]).toList _ (blk_range hg9) Tryd.underlying27 rfl (by kernel_rfl)
      clear hg9 g9
      replace hld := hide hld
      replace hb9 := hide hb9
      iterate 1 (refine wpList_plain rfl fun K hK => ?_; go_simp; refine hK _ _ ?_; clear hK K)
      refine wpList_nil ?_
      go_simp
      go_wp2_with fail
      exact bodyPost_ret (v := .tuple #[.agg #[.bool false, .int .u64 0, .int .u64 0], .int .i64 18]) (by simp [results, Tryd.results82, asAddr, hld.out, Result.andThen]) rfl ⟨rfl, hb9.out⟩
    | some b =>
      obtain rfl : true = ok := hok.out
      obtain rfl := hab b rfl
      have hok2 := hrok.out b rfl
      have hPF2 : PF = if textA b = s then some b else none := hPF.out
      obtain ⟨v6, hi, lo⟩ := b
      have hh : hi < 18446744073709551616 := hok2.1
      have hl : lo < 18446744073709551616 := hok2.2
      clear hok hPF hrok hab hok2
      unfold textA at hPF2
      unfold Adr.arr at hga
      have hcg := blk_cell hga.out
      have htx := text_any v6 hi lo hh hl wc
      dsimp only at hPF2
      obtain ⟨T, hT⟩ : ∃ x, textL v6 hi lo = x := ⟨_, rfl⟩
      rw [hT] at hPF2 htx
      replace hPF2 := hide hPF2
      replace htx := hide htx
      replace hT := hide hT
      by_cases hTs : T = s
      · obtain rfl : PF = some ⟨v6, hi, lo⟩ := by rw [hPF2.out, if_pos hTs]
        rw [hTs] at htx
        clear hPF2 hT
        replace hTs := hide hTs
        go_wp2_with fail
        refine htx.out.mono ?_
        rintro e w5 ⟨rfl, hb5⟩
        have hga5 := blk_below hb5 (by omega) hga.out
        have hr5 := blk_below hb5 (by omega) hr.out
        have hB5 := hBc.out.trans (hb5.mono hBc.out.size)
        have hz5 := hb5.size
        clear hb5 htx hga hr hBc hcg
        replace hga5 := hide hga5
        replace hr5 := hide hr5
        replace hB5 := hide hB5
        go_upto_region 8 with fail
        apply wp_region_lit
        refine wpl_ld rfl 27 (.tmp 4) rfl gg rfl _ _ hga5.out Tryd.underlying27 rfl (by kernel_rfl) ?_
        refine wpl_st rfl 27 (.tmp 2) (.tmp 31) rfl (w.heap.size) 0 rfl (#[.bool v6, .int .u64 (hi : Int), .int .u64 (lo : Int)]) rfl hr5.out (by simp) (by kernel_rfl) (adr_one _ _ _) fun w9 hg9 g9 => ?_
        rw [putA_whole _ _ (by rfl)] at hg9
        have hb9 : Below (w.heap.size) w w9 := (hB5.out).trans (below_grown g9 (by have := (hB5.out).size; omega) (Nat.le_refl _))
        have hld : (loadVar 27 ⟨w.heap.size, 0, none⟩).run Tryd.prog w9 = .ok (.agg (#[.bool v6, .int .u64 (hi : Int), .int .u64 (lo : Int)])) w9 := by
          simpa using run_loadVar_mid w9 (w.heap.size) 0 27 (#[.bool v6, .int .u64 (hi : Int), .int .u64 (lo : Int)]).toList _ (blk_range hg9) Tryd.underlying27 rfl (by kernel_rfl)
        clear hg9 g9
        replace hld := hide hld
        replace hb9 := hide hb9
        iterate 1 (refine wpList_plain rfl fun K hK => ?_; go_simp; refine hK _ _ ?_; clear hK K)
        refine wpList_nil ?_
        go_simp
        go_wp2_with fail
        exact bodyPost_ret (v := .tuple #[.agg #[.bool v6, .int .u64 (hi : Int), .int .u64 (lo : Int)], .int .i64 0]) (by simp [results, Tryd.results82, asAddr, hld.out, Result.andThen]) rfl ⟨rfl, hb9.out⟩
      · obtain rfl : PF = none := by rw [hPF2.out, if_neg hTs]
        have tq : ((str T).toList == (str s).toList) = false := by rw [str_toList, str_toList]; simpa using hTs
        clear hPF2 hT
        replace hTs := hide hTs
        go_wp2_with fail
        refine htx.out.mono ?_
        rintro e w5 ⟨rfl, hb5⟩
        have hga5 := blk_below hb5 (by omega) hga.out
        have hr5 := blk_below hb5 (by omega) hr.out
        have hB5 := hBc.out.trans (hb5.mono hBc.out.size)
        have hz5 := hb5.size
        clear hb5 htx hga hr hBc hcg
        replace hga5 := hide hga5
        replace hr5 := hide hr5
        replace hB5 := hide hB5
        go_upto_region 7 with fail
        apply wp_region_lit
        iterate 1 (refine wpList_plain rfl fun K hK => ?_; go_simp; refine hK _ _ ?_; clear hK K)
        refine wpl_st rfl 27 (.tmp 2) (.tmp 30) rfl (w.heap.size) 0 rfl (#[.bool false, .int .u64 0, .int .u64 0]) rfl hr5.out (by simp) (by kernel_rfl) (adr_one _ _ _) fun w9 hg9 g9 => ?_
        rw [putA_whole _ _ (by rfl)] at hg9
        have hb9 : Below (w.heap.size) w w9 := (hB5.out).trans (below_grown g9 (by have := (hB5.out).size; omega) (Nat.le_refl _))
        have hld : (loadVar 27 ⟨w.heap.size, 0, none⟩).run Tryd.prog w9 = .ok (.agg (#[.bool false, .int .u64 0, .int .u64 0])) w9 := by
          simpa using run_loadVar_mid w9 (w.heap.size) 0 27 (#[.bool false, .int .u64 0, .int .u64 0]).toList _ (blk_range hg9) Tryd.underlying27 rfl (by kernel_rfl)
        clear hg9 g9
        replace hld := hide hld
        replace hb9 := hide hb9
        iterate 1 (refine wpList_plain rfl fun K hK => ?_; go_simp; refine hK _ _ ?_; clear hK K)
        refine wpList_nil ?_
        go_simp
        go_wp2_with fail
        exact bodyPost_ret (v := .tuple #[.agg #[.bool false, .int .u64 0, .int .u64 0], .int .i64 18]) (by simp [results, Tryd.results82, asAddr, hld.out, Result.andThen]) rfl ⟨rfl, hb9.out⟩
end Addr05
end Go.Proofs.YtcpokkkdmenmgaaDoor
/- addr: which addresses may be, as the code and the law say; the law's awake. Condition: the cell of bytealg.MaxLen. -/
namespace Go.Proofs.YtcpokkkdmenmgaaDoor
open Go.RowKit Go.ChangeShapes Go.WideShapes Go.ChangeAt Go.Deep
namespace Addr05
def rightB (v6 : Bool) (hi lo : Nat) : Bool := v6 || (decide (hi = 0) && decide (lo < 4294967296))
theorem rightB_iff (a : Adr) : rightB a.v6 a.hi a.lo = true ↔ a.right := by
  unfold rightB Adr.right
  simp
set_option maxRecDepth 20000 in
theorem Right_any (v6 : Bool) (hi lo : Nat) (w : World) :
    Calls Tryd.prog 28 #[.agg #[.bool v6, .int .u64 (hi : Int), .int .u64 (lo : Int)]] w fun e w' => e = .returned (.bool (rightB v6 hi lo)) ∧ Below w.heap.size w w' := by
  have t1 : ((hi : Int) == 0) = decide (hi = 0) := by rw [Bool.eq_iff_iff]; simp
  have t2 : decide ((lo : Int) < 4294967296) = decide (lo < 4294967296) := by rw [Bool.eq_iff_iff]; simp; omega
  unfold rightB
  obtain ⟨b1, hb1⟩ : ∃ b, decide (hi = 0) = b := ⟨_, rfl⟩
  obtain ⟨b2, hb2⟩ : ∃ b, decide (lo < 4294967296) = b := ⟨_, rfl⟩
  rw [hb1] at t1 ⊢
  rw [hb2] at t2 ⊢
  clear hb1 hb2
  cases v6
  · cases b1
    · go_enter Tryd.func28, Tryd.ntmps28
      go_wp2_with fail
      go_ret
      exact ⟨rfl, (Below.refl _ _).alloc (Nat.le_refl _) _⟩
    · go_enter Tryd.func28, Tryd.ntmps28
      go_wp2_with fail
      go_ret
      exact ⟨rfl, (Below.refl _ _).alloc (Nat.le_refl _) _⟩
  · go_enter Tryd.func28, Tryd.ntmps28
    go_wp2_with fail
    go_ret
    exact ⟨rfl, (Below.refl _ _).alloc (Nat.le_refl _) _⟩
theorem parse1 (w : World) (hm : MaxAt w) : Calls Tryd.prog 82 #[.string ⟨#[58, 58, 49]⟩] w fun e w' => e = .returned (.tuple #[.agg #[.bool true, .int .u64 0, .int .u64 1], .int .i64 0]) ∧ Below w.heap.size w w' := by
  have h := Parse_any [58, 58, 49] (by decide) w hm
  rw [show parseF [58, 58, 49] = some ⟨true, 0, 1⟩ by kernel_rfl] at h
  exact h
theorem parse2 (w : World) (hm : MaxAt w) : Calls Tryd.prog 82 #[.string ⟨#[48, 58, 48, 58, 58, 49]⟩] w fun e w' => e = .returned (.tuple #[.agg #[.bool false, .int .u64 0, .int .u64 0], .int .i64 18]) ∧ Below w.heap.size w w' := by
  have h := Parse_any [48, 58, 48, 58, 58, 49] (by decide) w hm
  rw [show parseF [48, 58, 48, 58, 58, 49] = none by kernel_rfl] at h
  exact h
end Addr05
end Go.Proofs.YtcpokkkdmenmgaaDoor
/- The walk of AddrParses: it answers true. Condition: the cell of bytealg.MaxLen. -/
namespace Go.Proofs.YtcpokkkdmenmgaaDoor
open Go.RowKit Go.ChangeShapes Go.WideShapes Go.ChangeAt Go.Deep
namespace Addr05
theorem str_extract (s : List UInt8) (a b : Nat) : (str s).extract a b = str ((s.take b).drop a) := by
  apply ByteArray.ext
  apply Array.ext'
  simp [str, List.drop_take]
theorem u64_nat {i : Int} (h : (Lit.int .u64 i).wf = true) : ∃ n : Nat, i = (n : Int) ∧ n < 18446744073709551616 := by
  have h2 := u64_wf h
  exact ⟨i.toNat, by omega, by omega⟩
theorem str_data (s : ByteArray) : str s.data.toList = s := by
  apply ByteArray.ext
  rfl
end Addr05
end Go.Proofs.YtcpokkkdmenmgaaDoor
