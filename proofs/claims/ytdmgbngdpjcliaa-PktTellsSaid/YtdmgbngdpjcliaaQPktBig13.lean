/- six.Bytes of a header that may be, by contract. Conditions: slices that read as lists, numbers as a header may have them. -/
import Derived.Test.YtdmgbngdpjcliaaQPktBig12
import Derived.Test.YtdmgbngdpjcliaaQPktBig3
import Derived.Test.YtdmgbngdpjcliaaQPktBig4
import Derived.Test.YtdmgbngdpjcliaaQPktBig8
import Derived.Test.YtdmgbngdpjcliaaQPktBig7
import Derived.Test.YtdmgbngdpjcliaaQPktBig6
import Derived.Test.YtdmgbngdpjcliaaQPktBig5
import Derived.LoopN
namespace Go.Proofs.Ytdmgbngdpjcliaa
open Go.RowKit Go.ChangeShapes Go.WideShapes Go.ChangeAt Go.Deep
section
variable {Q : Exit → Act → World → Prop} {md : Region.Mode}
/-- append, as the one step of a region's tail. -/
theorem wpT_src (i : Nat) {L : List Oper} {o : Oper} {rest : List Oper} {fuel : Nat} {listed : Array Bool} {a : Act} {w : World} (hd : L.drop i = o :: rest) (hrd : Region.ready md L.toArray listed = [i]) (hgd : o.guard = none) (s x : Operand)
    (ho : o.op = .call { callee := .builtin .append, args := #[s, x], argTypes := #[22, 22] })
    (base : Nat) (v : Value) (xs ys : List UInt8) (A : Option Addr) (m c B : Nat) (hs : a.eval s = v) (hx : a.eval x = .slice A m c) (hown : OwnB w base v xs) (hr : IsB w B A m ys) (hbase : base ≤ w.heap.size) (hb : xs.length + m ≤ 1099511627776)
    (h : ∀ v' w', OwnB w' base v' (xs ++ ys) → Grew w v w' v' → wpAny Try.prog md L.toArray Q fuel (listed.setIfInBounds i true) (a.put o.dst v') w') : wpAny Try.prog md L.toArray Q (fuel + 1) listed a w := by
  refine wpT_step i hd hrd fun K hK => ?_
  have hw : Region.wanted o (yielded L.toArray a.tmps) = true := by unfold Region.wanted; rw [hgd]
  rw [if_pos hw]
  exact wp_src_bv s x ho base v xs ys A m c B hs hx hown hr hbase hb fun v' w' h1 h2 => hK _ _ (h v' w' h1 h2)
end
namespace Six
theorem sumL_pes (es : List Ext) : sumL es = sumP (pes es) := by
  unfold sumL sumP pes
  rw [List.map_map]
  rfl
theorem of8 {a b : Nat} (h : a % 256 = b % 256) : UInt8.ofNat a = UInt8.ofNat b := by
  apply UInt8.toNat.inj
  rw [UInt8.toNat_ofNat', UInt8.toNat_ofNat']
  exact h
theorem hd_eq (cls lab hop next T shi slo dhi dlo : Nat) (_h1 : cls ≤ 255) (h2 : lab ≤ 1048575) :
    beB (1610612736 + cls * 1048576 + lab) 4 ++ beB T 2 ++ [UInt8.ofNat next, UInt8.ofNat hop] ++ allB 8 [shi, slo, dhi, dlo] = hd8 cls lab hop next T ++ addrB true shi slo ++ addrB true dhi dlo := by
  have e : beB (1610612736 + cls * 1048576 + lab) 4 = [UInt8.ofNat (96 + cls / 16), UInt8.ofNat (cls % 16 * 16 + lab / 65536), UInt8.ofNat (lab / 256), UInt8.ofNat lab] := by
    simp only [beB, Nat.reducePow, Nat.div_one]
    rw [of8 (show (1610612736 + cls * 1048576 + lab) / 16777216 % 256 = (96 + cls / 16) % 256 by omega), of8 (show (1610612736 + cls * 1048576 + lab) / 65536 % 256 = (cls % 16 * 16 + lab / 65536) % 256 by omega),
      of8 (show (1610612736 + cls * 1048576 + lab) / 256 % 256 = (lab / 256) % 256 by omega), of8 (show (1610612736 + cls * 1048576 + lab) % 256 = lab % 256 by omega)]
  rw [e]
  simp [hd8, addrB, allB, beB]
theorem hd8_length (cls lab hop next T : Nat) : (hd8 cls lab hop next T).length = 8 := rfl
theorem allB6_length (cls lab hop shi slo dhi dlo proto : Nat) (es : List (Int × List UInt8)) (ps : List UInt8) : (allB6 cls lab hop shi slo dhi dlo proto es ps).length = 40 + sumP es + ps.length := by
  unfold allB6
  simp only [List.length_append, hd8_length, addrB, if_true, beB_length, extB_length]
  omega
set_option maxRecDepth 4000 in
set_option maxHeartbeats 4000000 in
theorem next_any (cls lab hop : Int) (sv : Bool) (shi slo : Int) (dv : Bool) (dhi dlo : Int) (X : Option Addr) (n c : Nat) (proto : Int) (es : List Ext) (i nx : Nat) (ii : Int) (hii : ii = (i : Int)) (w : World) (hx : IsX w w.heap.size X n es) (_hn : n ≤ maxLen) (hi : i ≤ n)
    (hnx : nextP ((pes es).drop i) proto = (nx : Int)) :
    Calls Try.prog 77 #[hdV cls lab hop sv shi slo dv dhi dlo X n c proto, .int .i64 ii] w fun e w' => e = .returned (.int .i64 (nx : Int)) ∧ Below w.heap.size w w' := by
  subst hii
  unfold maxLen at _hn
  have hbox := blk_new w 29 #[.int .i64 cls, .int .i64 lab, .int .i64 hop, .bool sv, .int .u64 shi, .int .u64 slo, .bool dv, .int .u64 dhi, .int .u64 dlo, .slice X n c, .int .i64 proto]
  obtain ⟨w1, hw1⟩ : ∃ w1, w.alloc (hdC cls lab hop sv shi slo dv dhi dlo X n c proto) = w1 := ⟨_, rfl⟩
  have hb1 : Below w.heap.size w w1 := hw1 ▸ (Below.refl _ _).alloc (Nat.le_refl _) _
  unfold hdC at hw1
  rw [hw1] at hbox
  have hcg := blk_cell hbox
  have hx1 := hx.on hb1
  have hpl : (pes es).length = n := by rw [pes_length]; exact hx.1
  replace hx := hide hx
  replace hb1 := hide hb1
  replace hbox := hide hbox
  replace hpl := hide hpl
  unfold hdV
  by_cases hlt : i < n
  · obtain ⟨b, off, k, Ae, ce, xs, rfl, hbl, hge, hc0, hc1, hbx, hxc, hxm⟩ := hx1.at hlt
    have hk : k = (nx : Int) := by
      rw [drop_get (pes_get hge)] at hnx
      exact hnx
    subst hk
    have hji : (i : Int) < (n : Int) := by omega
    have hj0 : (0 : Int) ≤ (i : Int) := by omega
    replace hx1 := hide hx1
    replace hnx := hide hnx
    replace hge := hide hge
    replace hbx := hide hbx
    go_enter Try.func77, Try.ntmps77
    go_wp2_with fail
    go_ret
    exact ⟨rfl, hb1.out⟩
  · have hk : proto = (nx : Int) := by
      rw [List.drop_of_length_le (by rw [hpl.out]; omega)] at hnx
      exact hnx
    subst hk
    have hji : ¬ (i : Int) < (n : Int) := by omega
    replace hx1 := hide hx1
    replace hnx := hide hnx
    go_enter Try.func77, Try.ntmps77
    go_wp2_with fail
    go_ret
    exact ⟨rfl, hb1.out⟩
theorem word6 (cls lab N : Nat) (h1 : cls ≤ 255) (h2 : lab ≤ 1048575) (hN : 1610612736 + cls * 1048576 + lab = N) : bits .or .u64 (bits .or .u64 1610612736 ((cls : Int) * 1048576)) (lab : Int) = (N : Int) := by
  have o1 : 1610612736 ||| cls * 1048576 = 1610612736 + cls * 1048576 := by
    have := Nat.two_pow_add_eq_or_of_lt (i := 28) (b := cls * 1048576) (by simp only [Nat.reducePow]; omega) 6
    simp only [Nat.reducePow, Nat.reduceMul] at this
    exact this.symm
  have o2 : (1610612736 + cls * 1048576) ||| lab = 1610612736 + cls * 1048576 + lab := by
    have := Nat.two_pow_add_eq_or_of_lt (i := 20) (b := lab) (by simp only [Nat.reducePow]; omega) (1536 + cls)
    simp only [Nat.reducePow] at this
    rw [show 1048576 * (1536 + cls) = 1610612736 + cls * 1048576 by omega] at this
    exact this.symm
  rw [show (1610612736 : Int) = ((1610612736 : Nat) : Int) from rfl, show (cls : Int) * 1048576 = ((cls * 1048576 : Nat) : Int) by simp, u64_or_nat _ _ (by omega) (by omega), o1, u64_or_nat _ _ (by omega) (by omega), o2, hN]
set_option maxRecDepth 20000 in
set_option maxHeartbeats 8000000 in
theorem bytes_any (cls lab hop : Nat) (sv : Bool) (shi slo : Nat) (dv : Bool) (dhi dlo : Nat) (X : Option Addr) (n c : Nat) (proto : Nat) (es : List Ext) (P : Option Addr) (m d : Nat) (ps : List UInt8) (w : World)
    (hx : IsX w w.heap.size X n es) (hnc : n ≤ c) (hcm : c ≤ maxLen) (hp : IsB w w.heap.size P m ps) (_hmd : m ≤ d) (_hdm : d ≤ maxLen) (hsv : sv = true) (hdv : dv = true)
    (b1 : cls ≤ 255) (b2 : lab ≤ 1048575) (b3 : hop ≤ 255) (b4 : proto ≤ 255) (b5 : shi < 18446744073709551616) (b6 : slo < 18446744073709551616) (b7 : dhi < 18446744073709551616) (b8 : dlo < 18446744073709551616)
    (hn : n ≤ 8) (hm : m ≤ 4096) (hk : ∀ e ∈ es, 0 ≤ e.k ∧ e.k ≤ 255) (hl : ∀ e ∈ es, e.xs.length ≤ 2047) (hr : rightHB cls lab hop sv dv proto (pes es) = true) :
    Calls Try.prog 41 #[hdV cls lab hop sv shi slo dv dhi dlo X n c proto, .slice P m d] w fun e w' => ∃ v, e = .returned (.tuple #[v, .int .i64 0]) ∧ OwnB w' w.heap.size v (allB6 cls lab hop shi slo dhi dlo proto (pes es) ps) ∧ Below w.heap.size w w' := by
  subst hsv hdv
  have hbox := blk_new w 29 #[.int .i64 cls, .int .i64 lab, .int .i64 hop, .bool true, .int .u64 shi, .int .u64 slo, .bool true, .int .u64 dhi, .int .u64 dlo, .slice X n c, .int .i64 proto]
  obtain ⟨w1, hw1⟩ : ∃ w1, w.alloc (hdC cls lab hop true shi slo true dhi dlo X n c proto) = w1 := ⟨_, rfl⟩
  have hb1 : Below w.heap.size w w1 := hw1 ▸ (Below.refl _ _).alloc (Nat.le_refl _) _
  have hlt1 : w.heap.size < w1.heap.size := by rw [← hw1]; simp
  unfold hdC at hw1
  rw [hw1] at hbox
  have hcg := blk_cell hbox
  have hx1 := hx.on hb1
  have hp1 := hp.on hb1
  have hpl : (pes es).length = n := by rw [pes_length]; exact hx.1
  have hpm := hp.1
  have hsum : sumP (pes es) ≤ 16384 := by
    have := sumP_le (pes es) (fun e he => by obtain ⟨e', he', rfl⟩ := List.mem_map.1 he; exact hl e' he')
    rw [hpl] at this
    omega
  obtain ⟨L0, hL0⟩ : ∃ L0, 40 + sumL es = L0 := ⟨_, rfl⟩
  have hL1 : 40 ≤ L0 := by omega
  have hL2 : L0 ≤ 16424 := by rw [← hL0, sumL_pes]; omega
  obtain ⟨T, hT⟩ : ∃ T, L0 - 40 + m = T := ⟨_, rfl⟩
  have hT1 : (extB (pes es) proto ++ ps).length = T := by rw [List.length_append, extB_length, ← sumL_pes, hpm]; omega
  obtain ⟨nx, hnx, hnx2⟩ : ∃ nx : Nat, nextP (pes es) proto = (nx : Int) ∧ nx ≤ 255 := by
    rcases es with _ | ⟨e, es⟩
    · exact ⟨proto, rfl, b4⟩
    · have := hk e (by simp)
      exact ⟨e.k.toNat, by show e.k = _; omega, by omega⟩
  have t1 : ¬ (65535 : Int) < (L0 : Int) - 40 + (m : Int) := by omega
  replace hx := hide hx
  replace hx1 := hide hx1
  replace hp := hide hp
  replace hp1 := hide hp1
  replace hb1 := hide hb1
  replace hbox := hide hbox
  replace hpl := hide hpl
  replace hk := hide hk
  replace hpm := hide hpm
  replace hsum := hide hsum
  replace hr := hide hr
  replace hL0 := hide hL0
  replace hT := hide hT
  replace hT1 := hide hT1
  replace hnx := hide hnx
  unfold hdV
  go_enter Try.func41, Try.ntmps41
  go_wp2_with fail
  refine (right_any cls lab hop true shi slo true dhi dlo X n c proto es _ hx1.out hnc hcm).mono ?_
  rw [hr.out]
  rintro e w2 ⟨rfl, hb2⟩
  have hg2 := blk_below hb2 hlt1 hbox.out
  have hB2 := hb1.out.trans (hb2.mono (Nat.le_of_lt hlt1))
  have hx2 := hx1.out.on hb2
  clear hcg hw1
  have hcg := blk_cell hg2
  have hlt2 := Nat.lt_of_lt_of_le hlt1 hb2.size
  replace hb2 := hide hb2
  replace hg2 := hide hg2
  replace hB2 := hide hB2
  replace hx2 := hide hx2
  go_wp2_with fail
  refine (len_any cls lab hop true shi slo true dhi dlo X n c proto es _ hx2.out hn hl L0 hL0.out).mono ?_
  rintro e w3 ⟨rfl, hb3⟩
  have hg3 := blk_below hb3 hlt2 hg2.out
  have hB3 := hB2.out.trans (hb3.mono (Nat.le_of_lt hlt2))
  have hx3 := hx2.out.on hb3
  clear hcg
  have hcg := blk_cell hg3
  have hlt3 := Nat.lt_of_lt_of_le hlt2 hb3.size
  replace hb3 := hide hb3
  replace hg3 := hide hg3
  replace hB3 := hide hB3
  replace hx3 := hide hx3
  obtain ⟨N, hN⟩ : ∃ N, 1610612736 + cls * 1048576 + lab = N := ⟨_, rfl⟩
  replace hN := hide hN
  go_wp2_with fail
  refine (put_lit _ _ N 4 ?e1 rfl w3.heap.size (.slice none 0 0) [] _ (OwnB.nil _ _) (Nat.le_refl _) (by have := hN.out; omega) (by omega) (by simp)).mono ?_
  case e1 => exact word6 cls lab N b1 b2 hN.out
  rintro e w4 ⟨v4, rfl, hown4, hg4⟩
  obtain ⟨B, hB⟩ : ∃ B, w3.heap.size = B := ⟨_, rfl⟩
  have hb4 := hg4.belowNil
  rw [hB] at hown4 hb4 hlt3
  have hxB := hx3.out
  have hpB := hp1.out.below (hb2.out.trans (hb3.out.mono hb2.out.size))
  rw [hB] at hxB
  have hpB := hpB.more (B' := B) (by have := hb2.out.size; have := hb3.out.size; omega)
  have hBx4 : Below B w3 w4 := hb4
  have hg4' := blk_below hBx4 hlt3 hg3.out
  have hx4 := (hxB.below hBx4).more (B' := w4.heap.size) (by have := hBx4.size; omega)
  have hz4 : B ≤ w4.heap.size := by have := hBx4.size; omega
  clear hcg hg4 hb4
  have hcg := blk_cell hg4'
  replace hown4 := hide hown4
  replace hBx4 := hide hBx4
  replace hg4' := hide hg4'
  replace hx4 := hide hx4
  replace hxB := hide hxB
  replace hpB := hide hpB
  replace hB := hide hB
  go_wp2_with fail
  refine (len_any cls lab hop true shi slo true dhi dlo X n c proto es _ hx4.out hn hl L0 hL0.out).mono ?_
  rintro e w5 ⟨rfl, hb5⟩
  have hBx5 := hBx4.out.trans (hb5.mono hz4)
  have hown5 := hown4.out.below hb5
  have hz5 : B ≤ w5.heap.size := Nat.le_trans hz4 hb5.size
  have hg5 := blk_below hBx5 hlt3 hg3.out
  clear hcg hb5
  have hcg := blk_cell hg5
  replace hown5 := hide hown5
  replace hBx5 := hide hBx5
  replace hg5 := hide hg5
  go_wp2_with fail
  refine (put_lit _ _ T 2 (by have := hT.out; omega) rfl B _ _ _ hown5.out hz5 (by have := hT.out; omega) (by omega) (by simp [beB_length])).mono ?_
  rintro e w6 ⟨v6, rfl, hown6, hg6⟩
  have hBx6 := hBx5.out.trans (hg6.below hown5.out hz5)
  have hz6 : B ≤ w6.heap.size := Nat.le_trans hz5 hg6.grown.size
  have hg6' := blk_below hBx6 hlt3 hg3.out
  have hlt6 : w.heap.size < w6.heap.size := by omega
  have hx6 := (hxB.out.below hBx6).more hz6
  have hcl := fun (l : Later w6) (o : Nat) => blk_cell (blk_below l.hb hlt6 hg6') o
  clear hcg hg6
  replace hown6 := hide hown6
  replace hBx6 := hide hBx6
  replace hg6' := hide hg6'
  replace hx6 := hide hx6
  go_wp2_with fail
  refine wp_region_L (by as_aux_lemma => kernel_rfl) ?_
  refine wpE_seg 0 7 (fuel := 3) (by as_aux_lemma => kernel_rfl) (fun d _ _ _ _ h => by cases d <;> exact h) (by as_aux_lemma => kernel_rfl) (by as_aux_lemma => kernel_rfl) ?_
  simp only [List.drop_zero, List.take_succ_cons, List.take_zero]
  iterate 2 (refine wpQE_step (fun K hK => ?_); go_simp; refine hK _ ?_; clear hK K)
  (refine wpQE_step (fun K hK => ?_); go_simp; apply Exists.intro; refine ⟨fun l => ?_, hK _ ?_⟩; (go_at_call 77; refine (next_any cls lab hop true shi slo true dhi dlo X n c proto es 0 nx _ rfl _ (hx6.out.later l) (by unfold maxLen; omega) (by omega) hnx.out).mono ?_; rintro e w' ⟨rfl, hb⟩; exact ⟨rfl, hb⟩); clear hK K)
  iterate 4 (refine wpQE_step (fun K hK => ?_); go_simp; refine hK _ ?_; clear hK K)
  refine wpQE_nil ?_
  have r1 : IntKind.u8.wrap (nx : Int) = (nx : Int) := wraps_u8 _ (by omega) (by omega)
  have r2 : IntKind.u8.wrap (hop : Int) = (hop : Int) := wraps_u8 _ (by omega) (by omega)
  rw [r1, r2]
  clear r1 r2 hcl
  refine wpE_step 7 (fuel := 2) rfl (by as_aux_lemma => kernel_rfl) (fun l K hK => ?_)
  go_simp
  have hzl := Nat.le_trans hz6 l.hb.size
  have hlit := OwnB.litv l.w l.w.heap.size [.int .u8 (nx : Int), .int .u8 (hop : Int)] [UInt8.ofNat nx, UInt8.ofNat hop] 2 (by simp only [List.map_cons, List.map_nil]; rw [u8v_nat _ (by omega), u8v_nat _ (by omega)]) rfl (Nat.le_refl _) (by omega)
  have hb7 : Below l.w.heap.size l.w (l.w.alloc (.cells [Value.int .u8 (nx : Int), .int .u8 (hop : Int)].toArray 5)) := (Below.refl _ _).alloc (Nat.le_refl _) _
  refine hK _ _ hb7 ?_
  clear hK K
  obtain ⟨w7, hw7⟩ : ∃ w7, l.w.alloc (.cells [Value.int .u8 (nx : Int), .int .u8 (hop : Int)].toArray 5) = w7 := ⟨_, rfl⟩
  rw [hw7] at hlit hb7
  rw [hw7]
  refine wpE_end (by as_aux_lemma => kernel_rfl) (fun l2 => ?_)
  have hBx8 := hBx6.out.trans ((l.hb.mono hz6).trans ((hb7.mono hzl).trans (l2.hb.mono (Nat.le_trans hzl hb7.size))))
  have hown8 := (hown6.out.below l.hb).below (hb7.trans (l2.hb.mono hb7.size))
  have hlit8 := (hlit.below l2.hb).reads.2.2.2
  have hz8 : B ≤ l2.w.heap.size := Nat.le_trans hz6 (Nat.le_trans l.hb.size (Nat.le_trans hb7.size l2.hb.size))
  refine wpT_src 8 rfl (by as_aux_lemma => kernel_rfl) rfl (.tmp 40) (.tmp 47) rfl B v6 _ _ _ _ _ _ rfl rfl hown8 hlit8 hz8 (by simp [beB_length]) fun v9 w9 hown9 hg9 => ?_
  refine wpT_step 9 rfl (by as_aux_lemma => kernel_rfl) (fun K hK => ?_)
  go_simp
  refine hK _ _ ?_
  clear hK K
  refine wpT_done (by as_aux_lemma => kernel_rfl) ?_ 0
  have hBx9 := hBx8.trans (hg9.below hown8 hz8)
  have hz9 : B ≤ w9.heap.size := Nat.le_trans hz8 hg9.grown.size
  have hg9' := blk_below hBx9 hlt3 hg3.out
  have hcg := blk_cell hg9'
  clear hg9 hown8 hlit8 hlit hb7 hw7 hBx8 hz8
  replace hown9 := hide hown9
  replace hBx9 := hide hBx9
  replace hg9' := hide hg9'
  go_wp2_with fail
  refine (all_lit B _ _ 8 _ rfl [shi, slo, dhi, dlo] _ rfl 4 _ rfl _ _ _ rfl hown9.out hz9 (by omega) (by simp [beB_length]) (by omega) ?_).mono ?_
  · intro N hN
    simp only [List.mem_cons, List.not_mem_nil, or_false] at hN
    omega
  rintro e w10 ⟨v10, rfl, hown10, hg10⟩
  have hBx10 := hBx9.out.trans (hg10.below hown9.out hz9)
  have hz10 : B ≤ w10.heap.size := Nat.le_trans hz9 hg10.grown.size
  obtain ⟨hb, hhb⟩ : ∃ hb, beB N 4 ++ beB T 2 ++ [UInt8.ofNat nx, UInt8.ofNat hop] ++ allB 8 [shi, slo, dhi, dlo] = hb := ⟨_, rfl⟩
  have hhl : hb.length = 40 := by rw [← hhb]; simp [beB_length, allB_length]
  have hown10' : OwnB w10 B v10 hb := by rw [← hhb]; simpa using hown10
  have hg10' := blk_below hBx10 hlt3 hg3.out
  clear hcg hg10 hown10
  have hcg := blk_cell hg10'
  replace hown10' := hide hown10'
  replace hBx10 := hide hBx10
  replace hg10' := hide hg10'
  replace hhb := hide hhb
  go_wp2_with fail
  clear hcg
  go_loopw [6, 67] (fun u i wr => ∃ (v : Value) (j : Nat) (ts : List UInt8), v = u ∧ j ≤ n ∧ i = .int .i64 (j : Int) ∧ ts ++ extB ((pes es).drop j) proto = extB (pes es) proto ∧ OwnB wr B u (hb ++ ts) ∧ Below B w3 wr) (fun _ i _ => n - (intOf i).toNat)
  case atStart => exact ⟨_, 0, [], rfl, Nat.zero_le _, rfl, by simp, by simpa using hown10'.out, hBx10.out⟩
  case round =>
    obtain ⟨v, j, ts, rfl, hj, rfl, hts, hu, hbr⟩ := hrel
    have htl : ts.length ≤ 16384 := by
      have h1 := congrArg List.length hts
      rw [List.length_append, extB_length (pes es)] at h1
      have := hsum.out
      omega
    have hzr : B ≤ wr.heap.size := by have := hbr.size; have := hB.out; omega
    have hgr := blk_below hbr hlt3 hg3.out
    have hxr := hxB.out.below hbr
    have hltr : w.heap.size < wr.heap.size := by omega
    by_cases hlt : j < n
    · obtain ⟨b, off, k, Ae, ce, xs, rfl, hbl, hge, hc0, hc1, hbx, hxc, hxm⟩ := hxr.at hlt
      have hpg := pes_get hge
      have hxl : xs.length ≤ 2047 := hl ⟨k, Ae, ce, xs⟩ (List.mem_of_getElem? hge)
      obtain ⟨nj, hnj, hnj2⟩ : ∃ nj : Nat, nextP ((pes es).drop (j + 1)) proto = (nj : Int) ∧ nj ≤ 255 := by
        rcases hd : (pes es).drop (j + 1) with _ | ⟨e, tl⟩
        · exact ⟨proto, rfl, b4⟩
        · have hm : e ∈ pes es := List.mem_of_mem_drop (hd ▸ List.mem_cons_self ..)
          obtain ⟨e', he', rfl⟩ := List.mem_map.1 hm
          have := hk.out e' he'
          exact ⟨e'.k.toNat, by show e'.k = _; omega, by omega⟩
      have hts2 : (ts ++ (UInt8.ofNat nj :: xs)) ++ extB ((pes es).drop (j + 1)) proto = extB (pes es) proto := by
        rw [← hts, drop_get hpg]
        simp [extB, hnj]
      have hji : (j : Int) < (n : Int) := by omega
      have hj0 : (0 : Int) ≤ (j : Int) := by omega
      have hcg := blk_cell hgr
      have hbw : Below wr.heap.size wr (wr.alloc (.cells #[.int .i64 k, .slice Ae xs.length ce] 73)) := (Below.refl _ _).alloc (Nat.le_refl _) _
      have hBw := hbr.trans (hbw.mono hzr)
      have hgw := blk_below hBw hlt3 hg3.out
      have hgx := blk_new wr 73 #[.int .i64 k, .slice Ae xs.length ce]
      have hxw := (hxB.out.below hBw).more (B' := (wr.alloc (.cells #[.int .i64 k, .slice Ae xs.length ce] 73)).heap.size) (by simp; omega)
      have huw := hu.below hbw
      have huw2 := hu
      have hlw : w.heap.size < (wr.alloc (.cells #[.int .i64 k, .slice Ae xs.length ce] 73)).heap.size := by simp; omega
      obtain ⟨wa, hwa⟩ : ∃ wa, wr.alloc (.cells #[.int .i64 k, .slice Ae xs.length ce] 73) = wa := ⟨_, rfl⟩
      have hlx : wr.heap.size < wa.heap.size := by rw [← hwa]; simp
      rw [hwa] at hbw hBw hgw hgx hxw huw hlw
      have hza : B ≤ wa.heap.size := by omega
      clear hge hu
      replace hts := hide hts
      replace hxr := hide hxr
      replace hpg := hide hpg
      replace hbx := hide hbx
      replace hgr := hide hgr
      replace hbr := hide hbr
      replace hbw := hide hbw
      replace hBw := hide hBw
      replace hgw := hide hgw
      replace hgx := hide hgx
      replace hxw := hide hxw
      replace huw := hide huw
      replace huw2 := hide huw2
      replace hnj := hide hnj
      replace hts2 := hide hts2
      replace hc0 := hide hc0
      replace hc1 := hide hc1
      have hc0' := hc0.out
      have hc1' := hc1.out
      go_wp2_with fail
      clear hcg hc0' hc1' hwa
      obtain ⟨row, hrow⟩ : ∃ row, Value.ownBlock v = row := ⟨_, rfl⟩
      have hug : ∀ k, row = some k → B ≤ k ∧ k < wa.heap.size := fun k e => huw.out.lt k (hrow.trans e)
      have hn1 : some w.heap.size ≠ row := fun e => by have := hug _ e.symm; omega
      have hn2 : some wr.heap.size ≠ row := fun e => by have := (huw2.out.lt _ (hrow.trans e.symm)).2; omega
      have hcl := fun (l : KeptW wa.heap.size row wa.drew) (o : Nat) => blk_cell (l.blk (show wa.drew.heap[w.heap.size]? = _ from hgw.out) hlw hn1) o
      have hcx := fun (l : KeptW wa.heap.size row wa.drew) (o : Nat) => blk_cell (l.blk (show wa.drew.heap[wr.heap.size]? = _ from hgx.out) hlx hn2) o
      have s1 : IntKind.i64.wrap ((j : Int) + 1) = ((j + 1 : Nat) : Int) := by rw [wraps62 _ (by omega) (by omega)]; omega
      refine wp_region_K wa.heap.size row (by as_aux_lemma => kernel_rfl) ?_
      refine wpK_seg wa.heap.size row 0 4 (fuel := 8) (by as_aux_lemma => kernel_rfl) (fun d _ _ _ _ h => by cases d <;> exact h) (by as_aux_lemma => kernel_rfl) (by as_aux_lemma => kernel_rfl) ?_
      simp only [List.drop_zero, List.take_succ_cons, List.take_zero]
      iterate 4 (refine wpQK_step (fun K hK => ?_); go_simp; refine hK _ ?_; clear hK K)
      refine wpQF_nil ?_
      refine wpK_seg wa.heap.size row 8 2 (fuel := 6) (by as_aux_lemma => kernel_rfl) (fun d _ _ _ _ h => by cases d <;> exact h) (by as_aux_lemma => kernel_rfl) (by as_aux_lemma => kernel_rfl) ?_
      simp only [List.drop_succ_cons, List.drop_zero, List.take_succ_cons, List.take_zero]
      iterate 2 (refine wpQK_step (fun K hK => ?_); go_simp; refine hK _ ?_; clear hK K)
      refine wpQF_nil ?_
      clear hcl hcx
      have hbd : Below wa.heap.size wa wa.drew := (Below.refl _ _).drew
      refine wpF_step 4 rfl (by as_aux_lemma => kernel_rfl) (fun K hK => ?_)
      go_simp
      go_at_call 77
      refine (next_any cls lab hop true shi slo true dhi dlo _ n c proto es (j + 1) nj _ (by omega) _ ((hxw.out.below hbd).more hbd.size) (by unfold maxLen; omega) (by omega) hnj.out).mono ?_
      rintro e w5 ⟨rfl, hb5⟩
      refine hK _ _ (kept_of_below hb5 (Nat.le_refl _)) ?_
      clear hK K
      have hb5' : Below wa.heap.size wa w5 := hbd.trans hb5
      have r1 : IntKind.u8.wrap (nj : Int) = (nj : Int) := wraps_u8 _ (by omega) (by omega)
      refine wpF_step 5 rfl (by as_aux_lemma => kernel_rfl) (fun K hK => ?_)
      go_simp
      refine hK _ _ (kept_refl _ _ _) ?_
      clear hK K
      clear r1 s1
      refine wpF_step 6 rfl (by as_aux_lemma => kernel_rfl) (fun K hK => ?_)
      go_simp
      have hz5 : wa.heap.size ≤ w5.heap.size := hb5'.size
      have hlit := OwnB.litv w5 w5.heap.size [.int .u8 (nj : Int)] [UInt8.ofNat nj] 1 (by simp only [List.map_cons, List.map_nil]; rw [u8v_nat _ (by omega)]) rfl (Nat.le_refl _) (by omega)
      have hb7 : Below w5.heap.size w5 (w5.alloc (.cells [Value.int .u8 (nj : Int)].toArray 5)) := (Below.refl _ _).alloc (Nat.le_refl _) _
      refine hK _ _ (kept_of_below hb7 hz5) ?_
      clear hK K
      obtain ⟨w7, hw7⟩ : ∃ w7, w5.alloc (.cells [Value.int .u8 (nj : Int)].toArray 5) = w7 := ⟨_, rfl⟩
      rw [hw7] at hlit hb7
      rw [hw7]
      have hb7' : Below wa.heap.size wa w7 := hb5'.trans (hb7.mono hz5)
      have hz7 : wa.heap.size ≤ w7.heap.size := hb7'.size
      have hown8 := huw.out.below hb7'
      have hlit8 := hlit.reads.2.2.2
      refine wpK_src 7 rfl (by as_aux_lemma => kernel_rfl) rfl (.tmp 72) (.tmp 78) rfl B v (hb ++ ts) _ _ _ _ _ rfl rfl hown8 hlit8 (by omega) (by rw [List.length_append]; omega) (.inl hrow) hz7 fun v9 w9 hown9 hg9 => ?_
      have hb9 := hg9.below hown8 (by omega)
      have hz9 := hg9.grown.size
      have hv9 := moved_row hg9 (.inl hrow) hz7
      have hbx9 := ((hbx.out.below (hbw.out.mono hzr)).below ((hb7'.mono hza).trans hb9))
      refine wpK_src 10 rfl (by as_aux_lemma => kernel_rfl) rfl (.tmp 79) (.tmp 81) rfl B v9 _ _ _ _ _ _ rfl rfl hown9 hbx9 (by omega) (by simp; omega) hv9 (by omega) fun v10 w10 hown10 hg10 => ?_
      have hb10 := hg10.below hown9 (by omega)
      have hBxe := hBw.out.trans ((hb7'.mono hza).trans (hb9.trans hb10))
      have howne : OwnB w10 B v10 (hb ++ (ts ++ (UInt8.ofNat nj :: xs))) := by simpa using hown10
      refine wpF_step 11 rfl (by as_aux_lemma => kernel_rfl) (fun K hK => ?_)
      go_simp
      refine hK _ _ (kept_refl _ _ _) ?_
      clear hK K
      refine wpF_done (by as_aux_lemma => kernel_rfl) ?_ 0
      clear hg9 hg10 hown8 hown9 hown10 hlit8 hlit hb7 hw7 hb7' hb9 hb10 hbx9 hb5 hb5' hbd hv9
      replace hBxe := hide hBxe
      replace howne := hide howne
      go_wp2_with fail
      exact ⟨⟨_, j + 1, ts ++ (UInt8.ofNat nj :: xs), rfl, by omega, by go_num, hts2.out, howne.out, hBxe.out⟩, by simp [intOf]; omega⟩
    · have hji : ¬ (j : Int) < (n : Int) := by omega
      obtain rfl : j = n := by omega
      have hpr := hpB.out.below hbr
      have hgr2 := blk_cell hgr
      have hen : ts = extB (pes es) proto := by
        rw [← hts, List.drop_of_length_le (by rw [hpl.out]; exact Nat.le_refl _)]
        simp [extB]
      have hpml : (hb ++ ts).length + m ≤ 1099511627776 := by rw [List.length_append]; omega
      replace hts := hide hts
      replace hxr := hide hxr
      replace hgr := hide hgr
      replace hu := hide hu
      replace hbr := hide hbr
      replace hpr := hide hpr
      replace hen := hide hen
      go_wp2_with (at_builtin; refine wpl_src_bv rfl (.tmp 84) (.tmp 85) rfl B _ _ ps P m d B rfl rfl hu.out hpr.out hzr hpml ?_)
      intro v11 w11 hown11 hg11
      have hBx11 := hbr.out.trans (hg11.below hu.out hzr)
      have hfin : (hb ++ ts) ++ ps = allB6 cls lab hop shi slo dhi dlo proto (pes es) ps := by
        unfold allB6
        rw [hen.out, hT1.out, hnx.out, ← hhb.out, show beB N 4 = beB (1610612736 + cls * 1048576 + lab) 4 by rw [hN.out], hd_eq cls lab hop nx T shi slo dhi dlo b1 b2]
        simp
      rw [← List.append_assoc, hfin] at hown11
      clear hg11
      replace hown11 := hide hown11
      replace hBx11 := hide hBx11
      go_wp2_with fail
      go_ret2
      exact ⟨_, rfl, hown11.out.weaken (by have := hlt3; omega), hB3.out.trans (hBx11.out.mono (by omega))⟩
end Six
end Go.Proofs.Ytdmgbngdpjcliaa
/- tcp.Right and tcp.Bytes by contract, for the headers that pkt.Segment makes. Conditions: slices of bytes that read as lists, below 2^30 bytes. -/
namespace Go.Proofs.Ytdmgbngdpjcliaa
open Go.RowKit Go.ChangeShapes Go.WideShapes Go.ChangeAt Go.Deep
namespace Tcp
/-- Whether a header may be. -/
def rightP (s d fl : Int) : Bool := decide (0 ≤ s ∧ s ≤ 65535 ∧ 0 ≤ d ∧ d ≤ 65535 ∧ 0 ≤ fl ∧ fl ≤ 255)
set_option maxRecDepth 8000 in
set_option maxHeartbeats 4000000 in
theorem right_any (s d fl : Int) (w : World) (r : Bool) (hr : rightP s d fl = r) :
    Calls Try.prog 92 #[hdV s d 0 0 fl 1024 0 none 0 0] w fun e w' => e = .returned (.bool r) ∧ Below w.heap.size w w' := by
  have hB : Below w.heap.size w (w.alloc (hdC s d 0 0 fl 1024 0 none 0 0)) := (Below.refl _ _).alloc (Nat.le_refl _) _
  have i0 : ∀ w : World, (Instr.index 129 (.agg #[.int .i64 s, .int .i64 d, .int .i64 1024, .int .i64 0]) (.int .i64 0)).run Try.prog w = .ok (.int .i64 s) w := fun _ => by kernel_rfl
  have i1 : ∀ w : World, (Instr.index 129 (.agg #[.int .i64 s, .int .i64 d, .int .i64 1024, .int .i64 0]) (.int .i64 1)).run Try.prog w = .ok (.int .i64 d) w := fun _ => by kernel_rfl
  have i2 : ∀ w : World, (Instr.index 129 (.agg #[.int .i64 s, .int .i64 d, .int .i64 1024, .int .i64 0]) (.int .i64 2)).run Try.prog w = .ok (.int .i64 1024) w := fun _ => by kernel_rfl
  have i3 : ∀ w : World, (Instr.index 129 (.agg #[.int .i64 s, .int .i64 d, .int .i64 1024, .int .i64 0]) (.int .i64 3)).run Try.prog w = .ok (.int .i64 0) w := fun _ => by kernel_rfl
  unfold rightP at hr
  unfold hdC at hB
  unfold hdV
  by_cases h : 0 ≤ s ∧ s ≤ 65535 ∧ 0 ≤ d ∧ d ≤ 65535 ∧ 0 ≤ fl ∧ fl ≤ 255
  · obtain rfl : r = true := by rw [← hr, decide_eq_true h]
    obtain ⟨h1, h2, h3, h4, h5, h6⟩ := h
    replace hB := hide hB
    clear hr
    go_enter Try.func92, Try.ntmps92
    go_wp2_with fail
    refine wp_loop_rounds 5 ?_
    iterate 5 (rw [rounds_succ]; go_wp2_with fail)
    go_ret
    exact ⟨rfl, hB.out⟩
  obtain rfl : r = false := by rw [← hr, decide_eq_false h]
  clear hr
  by_cases h1 : 0 ≤ s ∧ s ≤ 65535
  case neg =>
    have g : ((decide (s < 0)) || decide (65535 < s)) = true := by simp; omega
    by_cases h2 : s < 0
    · clear h1 h g
      replace hB := hide hB
      go_enter Try.func92, Try.ntmps92
      go_wp2_with fail
      refine wp_loop_rounds 5 ?_
      rw [rounds_succ]
      go_wp2_with fail
      go_ret
      exact ⟨rfl, hB.out⟩
    · have h3 : 65535 < s := by omega
      clear h1 h g
      replace hB := hide hB
      go_enter Try.func92, Try.ntmps92
      go_wp2_with fail
      refine wp_loop_rounds 5 ?_
      rw [rounds_succ]
      go_wp2_with fail
      go_ret
      exact ⟨rfl, hB.out⟩
  obtain ⟨a1, a2⟩ := h1
  by_cases h1 : 0 ≤ d ∧ d ≤ 65535
  case neg =>
    by_cases h2 : d < 0
    · clear h1 h
      replace hB := hide hB
      go_enter Try.func92, Try.ntmps92
      go_wp2_with fail
      refine wp_loop_rounds 5 ?_
      iterate 2 (rw [rounds_succ]; go_wp2_with fail)
      go_ret
      exact ⟨rfl, hB.out⟩
    · have h3 : 65535 < d := by omega
      clear h1 h
      replace hB := hide hB
      go_enter Try.func92, Try.ntmps92
      go_wp2_with fail
      refine wp_loop_rounds 5 ?_
      iterate 2 (rw [rounds_succ]; go_wp2_with fail)
      go_ret
      exact ⟨rfl, hB.out⟩
  obtain ⟨b1, b2⟩ := h1
  by_cases h5 : 0 ≤ fl
  · have h6 : 255 < fl := by omega
    clear h
    replace hB := hide hB
    go_enter Try.func92, Try.ntmps92
    go_wp2_with fail
    refine wp_loop_rounds 5 ?_
    iterate 5 (rw [rounds_succ]; go_wp2_with fail)
    go_ret
    exact ⟨rfl, hB.out⟩
  · clear h
    replace hB := hide hB
    go_enter Try.func92, Try.ntmps92
    go_wp2_with fail
    refine wp_loop_rounds 5 ?_
    iterate 5 (rw [rounds_succ]; go_wp2_with fail)
    go_ret
    exact ⟨rfl, hB.out⟩
theorem bytes_no (s d fl : Int) (A : Option Addr) (n c : Nat) (P : Option Addr) (m e : Nat) (w : World) (h : rightP s d fl = false) :
    Calls Try.prog 70 #[hdV s d 0 0 fl 1024 0 none 0 0, .slice A n c, .slice P m e] w fun e w' => e = .returned (.tuple #[.slice none 0 0, .int .i64 1]) ∧ Below w.heap.size w w' := by
  unfold hdV
  go_enter Try.func70, Try.ntmps70
  go_wp2_with fail
  refine (right_any s d fl _ false h).mono ?_
  rintro e w1 ⟨rfl, hb⟩
  go_wp2_with fail
  go_ret2
  exact ⟨rfl, ((Below.refl _ _).alloc (Nat.le_refl _) _).trans (hb.mono (by simp))⟩
/-- A segment's bytes, the check's two still 0. -/
def sg0 (s d fl : Nat) (xs : List UInt8) : List UInt8 := (((allB 2 [s, d] ++ allB 4 [0, 0]) ++ [80, UInt8.ofNat fl]) ++ allB 2 [1024, 0, 0]) ++ xs
def sgB (ps : List UInt8) (s d fl : Nat) (xs : List UInt8) : List UInt8 := setB (sg0 s d fl xs) 16 (beB (65535 - Sum.ones (Sum.tot false (ps ++ sg0 s d fl xs))) 2)
theorem sg0_length (s d fl : Nat) (xs : List UInt8) : (sg0 s d fl xs).length = 20 + xs.length := by simp [sg0, allB_length]; omega
set_option maxRecDepth 8000 in
set_option maxHeartbeats 4000000 in
theorem bytes_yes (s d fl : Nat) (A : Option Addr) (n c : Nat) (P : Option Addr) (m e : Nat) (xs ps : List UInt8) (w : World) (hs : s ≤ 65535) (hd : d ≤ 65535) (hfl : fl ≤ 255) (hx : IsB w w.heap.size A n xs) (hp : IsB w w.heap.size P m ps) (hn : n ≤ 1073741824) (hm : m ≤ maxLen) :
    Calls Try.prog 70 #[hdV s d 0 0 fl 1024 0 none 0 0, .slice A n c, .slice P m e] w fun e w' => ∃ v, e = .returned (.tuple #[v, .int .i64 0]) ∧ OwnB w' w.heap.size v (sgB ps s d fl xs) ∧ Below w.heap.size w w' := by
  have hxl := hx.1
  have hR : rightP (s : Int) (d : Int) (fl : Int) = true := by unfold rightP; rw [decide_eq_true_eq]; omega
  have hnew := blk_new w 92 #[.int .i64 s, .int .i64 d, .int .u32 0, .int .u32 0, .int .i64 fl, .int .i64 1024, .int .i64 0, .slice none 0 0]
  replace hx := hide hx
  replace hp := hide hp
  replace hxl := hide hxl
  replace hR := hide hR
  replace hnew := hide hnew
  unfold hdV
  go_enter Try.func70, Try.ntmps70
  go_wp2_with fail
  refine (right_any s d fl _ true hR.out).mono ?_
  rintro e w1 ⟨rfl, hb1⟩
  have hblk1 := blk_below hb1 (by simp) hnew.out
  have hbw1 : Below w.heap.size w w1 := ((Below.refl _ _).alloc (Nat.le_refl _) _).trans (hb1.mono (by simp))
  have hz1 := hb1.size
  simp only [World.size_alloc] at hz1
  have hlt1 : w.heap.size < w1.heap.size := by omega
  have hcell1 := blk_cell hblk1
  clear hnew
  replace hb1 := hide hb1
  replace hbw1 := hide hbw1
  replace hblk1 := hide hblk1
  go_wp2_with fail
  refine (all_lit w1.heap.size _ [] 2 _ rfl [s, d] _ ?_ 2 _ rfl _ w1 _ rfl (OwnB.nil _ _) (Nat.le_refl _) (by omega) (by simp) (by omega) ?_).mono ?_
  · simp [u64v]
  · intro N hN
    simp only [List.mem_cons, List.not_mem_nil, or_false] at hN
    omega
  rintro e w2 ⟨v2, rfl, hown2, hg2⟩
  rw [List.nil_append] at hown2
  have hb2 := hg2.below (OwnB.nil _ _) (Nat.le_refl _)
  have hz2 := hb2.size
  have hblk2 := blk_below hb2 hlt1 hblk1.out
  have hcell2 := blk_cell hblk2
  clear hcell1 hg2
  replace hown2 := hide hown2
  replace hb2 := hide hb2
  replace hblk2 := hide hblk2
  go_wp2_with fail
  refine (all_lit w1.heap.size _ _ 4 _ rfl [0, 0] _ ?_ 2 _ rfl _ w2 _ rfl hown2.out hz2 (by omega) (by simp [allB_length]) (by omega) ?_).mono ?_
  · simp [u64v]
  · intro N hN
    simp only [List.mem_cons, List.not_mem_nil, or_false] at hN
    omega
  rintro e w3 ⟨v3, rfl, hown3, hg3⟩
  have hb3 := hb2.out.trans (hg3.below hown2.out hz2)
  have hz3 := hb3.size
  have hblk3 := blk_below hb3 hlt1 hblk1.out
  have hcell3 := blk_cell hblk3
  clear hcell2 hg3
  have hv4 : [Value.int .u8 80, Value.int .u8 (fl : Int)] = ([80, UInt8.ofNat fl] : List UInt8).map u8v := by
    simp only [List.map_cons, List.map_nil]
    rw [u8v_nat _ hfl]
    rfl
  replace hown3 := hide hown3
  replace hb3 := hide hb3
  replace hblk3 := hide hblk3
  replace hv4 := hide hv4
  go_wp2_with (at_builtin; refine wpl_lit_bv rfl (.tmp 29) (.tmp 40) rfl w1.heap.size _ _ [80, UInt8.ofNat fl] _ _ rfl rfl ?_ ?_ hown3.out ?_ ?_ ?_)
  · exact hv4.out
  · rfl
  · exact hz3
  · simp [allB_length]
  intro v4 w4 hown4 hg4
  have hb4 := hb3.out.trans (hg4.below hown3.out hz3)
  have hz4 := hb4.size
  have hblk4 := blk_below hb4 hlt1 hblk1.out
  have hcell4 := blk_cell hblk4
  clear hcell3 hg4
  replace hown4 := hide hown4
  replace hb4 := hide hb4
  replace hblk4 := hide hblk4
  go_wp2_with fail
  refine (all_lit w1.heap.size _ _ 2 _ rfl [1024, 0, 0] _ ?_ 3 _ rfl _ w4 _ rfl hown4.out hz4 (by omega) (by simp [allB_length]) (by omega) ?_).mono ?_
  · simp [u64v]
  · intro N hN
    simp only [List.mem_cons, List.not_mem_nil, or_false] at hN
    omega
  rintro e w5 ⟨v5, rfl, hown5, hg5⟩
  have hb5 := hb4.out.trans (hg5.below hown4.out hz4)
  have hz5 := hb5.size
  have hblk5 := blk_below hb5 hlt1 hblk1.out
  have hcell5 := blk_cell hblk5
  have hx5 := (hx.out.on hbw1.out).on hb5
  clear hcell4 hg5
  replace hown5 := hide hown5
  replace hb5 := hide hb5
  replace hblk5 := hide hblk5
  replace hx5 := hide hx5
  go_wp2_with (at_builtin; refine wpl_src_bv rfl (.tmp 51) (.tmp 53) rfl w1.heap.size _ _ [] _ _ _ w5.heap.size rfl rfl hown5.out (IsB.nil _ _ _) ?_ ?_ ?_)
  · exact hz5
  · simp [allB_length]
  intro v6 w6 hown6 hg6
  have hb6 := hb5.out.trans (hg6.below hown5.out hz5)
  have hz6 := hb6.size
  have hblk6 := blk_below hb6 hlt1 hblk1.out
  have hcell6 := blk_cell hblk6
  have hx6 := (hx.out.on hbw1.out).on hb6
  clear hcell5 hg6
  replace hown6 := hide hown6
  replace hb6 := hide hb6
  replace hblk6 := hide hblk6
  replace hx6 := hide hx6
  go_wp2_with (at_builtin; refine wpl_src_bv rfl (.tmp 54) (.tmp 55) rfl w1.heap.size _ _ xs _ _ _ w6.heap.size rfl rfl hown6.out hx6.out ?_ ?_ ?_)
  · exact hz6
  · simp [allB_length]; omega
  intro v7 w7 hown7 hg7
  have hb7 := hb6.out.trans (hg7.below hown6.out hz6)
  have hz7 := hb7.size
  have hown7' : OwnB w7 w1.heap.size v7 (sg0 s d fl xs) := by
    unfold sg0
    simpa using hown7
  clear hown7
  obtain ⟨A3, c3, rfl, hc3, hm3, hi3⟩ := hown7'.form
  rw [sg0_length, hxl.out] at hc3 hi3 hown7' ⊢
  have hbw7 : Below w.heap.size w w7 := hbw1.out.trans (hb7.mono (by omega))
  have hp7 := hp.out.on hbw7
  have hps := Icmp.isP_two' w7.heap.size rfl (t := 22) (c := c3) (d := e) hi3 hp7 (by unfold maxLen; omega) hm
  have hi4 := hi3.alloc (.cells #[.slice P m e, .slice A3 (20 + n) c3] 22)
  have hle := Sum.ones_le (Sum.tot false (ps ++ sg0 s d fl xs))
  have hflat : Sum.flat [⟨P, e, ps⟩, ⟨A3, c3, sg0 s d fl xs⟩] = ps ++ sg0 s d fl xs := by simp [Sum.flat]
  obtain ⟨T, hT⟩ : ∃ T, 65535 - Sum.ones (Sum.tot false (ps ++ sg0 s d fl xs)) = T := ⟨_, rfl⟩
  have hT' := hT
  rw [← hflat] at hT
  have hTl : T ≤ 65535 := by omega
  clear hcell6 hle hg7
  replace hps := hide hps
  replace hi3 := hide hi3
  replace hi4 := hide hi4
  replace hown7' := hide hown7'
  replace hbw7 := hide hbw7
  replace hp7 := hide hp7
  replace hflat := hide hflat
  replace hT := hide hT
  replace hT' := hide hT'
  replace hb7 := hide hb7
  go_wp2_with fail
  refine (Sum.check_any _ _ _ _ _ hps.out (by unfold maxLen; omega)).mono ?_
  rintro e w' ⟨rfl, rfl⟩
  rw [hT.out]
  go_wp2_with fail
  refine (set_in A3 (20 + n) c3 (sg0 s d fl xs) 16 T 2 _ _ _ rfl rfl rfl _ hi4.out (by omega) (by omega) (by omega) (by omega) (by omega)).mono ?_
  rintro e w8 ⟨v8, rfl, hown8, hb8⟩
  have hfin : OwnB w8 w.heap.size v8 (sgB ps s d fl xs) := by
    have h1 := hown8.weaken (base' := w.heap.size) (by simp; omega)
    unfold sgB
    rw [hT'.out]
    exact h1
  have hb9 := (hbw7.out.alloc (by omega) (.cells #[.slice P m e, .slice A3 (20 + n) c3] 22)).trans (hb8.mono (by simp; omega))
  clear hb8 hown8
  replace hfin := hide hfin
  replace hb9 := hide hb9
  go_wp2_with fail
  go_ret2
  exact ⟨v8, rfl, hfin.out, hb9.out⟩
end Tcp
end Go.Proofs.Ytdmgbngdpjcliaa
/- Plain: a header's bytes, made again of what was read of them. No condition. -/
namespace Go.Proofs.Ytdmgbngdpjcliaa
open Go.RowKit Go.ChangeShapes Go.WideShapes Go.ChangeAt Go.Deep
theorem beB_snoc (a b : Nat) (hb : b < 256) : ∀ k, beB (a * 256 + b) (k + 1) = beB a k ++ [UInt8.ofNat b]
  | 0 => by
    simp only [beB, List.nil_append, Nat.pow_zero, Nat.div_one]
    rw [Six.of8 (show (a * 256 + b) % 256 = b % 256 by omega)]
  | k + 1 => by
    have ih := beB_snoc a b hb k
    rw [beB, ih, beB, List.cons_append]
    congr 2
    rw [Nat.pow_succ, Nat.mul_comm (256 ^ k) 256, ← Nat.div_div_eq_div_mul]
    congr 1
    omega
theorem beB_beN (xs : List UInt8) (p : Nat) : ∀ k, p + k ≤ xs.length → beB (beN xs p k) k = (xs.drop p).take k
  | 0, _ => by simp [beB]
  | k + 1, h => by
    have ih := beB_beN xs p k (by omega)
    have hlt := (xs.getD (p + k) 0).toNat_lt
    rw [beN, beB_snoc _ _ (by omega), ih, List.take_add_one, List.getElem?_drop]
    congr 1
    have h1 : xs[p + k]? = some xs[p + k] := List.getElem?_eq_getElem (by omega)
    simp [List.getD, h1]
namespace Six
theorem cons_of8 (xs : List UInt8) (h : 8 ≤ xs.length) : ∃ x0 x1 x2 x3 x4 x5 x6 x7 tl, xs = x0 :: x1 :: x2 :: x3 :: x4 :: x5 :: x6 :: x7 :: tl := by
  match xs, h with
  | x0 :: x1 :: x2 :: x3 :: x4 :: x5 :: x6 :: x7 :: tl, _ => exact ⟨x0, x1, x2, x3, x4, x5, x6, x7, tl, rfl⟩
theorem of8' {a : Nat} {x : UInt8} (h : a % 256 = x.toNat) : UInt8.ofNat a = x := by
  apply UInt8.toNat.inj
  rw [UInt8.toNat_ofNat']
  exact h
theorem hd8_again (xs : List UInt8) (h : 8 ≤ xs.length) (hv : (xs.getD 0 0).toNat / 16 = 6) :
    hd8 (beN xs 0 4 / 1048576 % 256) (beN xs 0 4 % 1048576) (xs.getD 7 0).toNat (xs.getD 6 0).toNat (beN xs 4 2) = xs.take 8 := by
  obtain ⟨x0, x1, x2, x3, x4, x5, x6, x7, tl, rfl⟩ := cons_of8 xs h
  have b0 := x0.toNat_lt
  have b1 := x1.toNat_lt
  have b2 := x2.toNat_lt
  have b3 := x3.toNat_lt
  have b4 := x4.toNat_lt
  have b5 := x5.toNat_lt
  have b6 := x6.toNat_lt
  have b7 := x7.toNat_lt
  have e1 : beN (x0 :: x1 :: x2 :: x3 :: x4 :: x5 :: x6 :: x7 :: tl) 0 4 = ((x0.toNat * 256 + x1.toNat) * 256 + x2.toNat) * 256 + x3.toNat := by simp [beN]
  have e2 : beN (x0 :: x1 :: x2 :: x3 :: x4 :: x5 :: x6 :: x7 :: tl) 4 2 = x4.toNat * 256 + x5.toNat := by simp [beN]
  have hv' : x0.toNat / 16 = 6 := by simpa using hv
  have e6 : ((x0 :: x1 :: x2 :: x3 :: x4 :: x5 :: x6 :: x7 :: tl).getD 6 0) = x6 := rfl
  have e7 : ((x0 :: x1 :: x2 :: x3 :: x4 :: x5 :: x6 :: x7 :: tl).getD 7 0) = x7 := rfl
  rw [e1, e2, e6, e7]
  unfold hd8
  simp only [List.take_succ_cons, List.take_zero]
  refine list8 (of8' ?_) (of8' ?_) (of8' ?_) (of8' ?_) (of8' ?_) (of8' ?_) (of8' ?_) (of8' ?_) <;> omega
theorem head_again (xs : List UInt8) (h : 40 ≤ xs.length) (hv : (xs.getD 0 0).toNat / 16 = 6) :
    hd8 (beN xs 0 4 / 1048576 % 256) (beN xs 0 4 % 1048576) (xs.getD 7 0).toNat (xs.getD 6 0).toNat (beN xs 4 2) ++ addrB true (beN xs 8 8) (beN xs 16 8) ++ addrB true (beN xs 24 8) (beN xs 32 8) = xs.take 40 := by
  rw [hd8_again xs (by omega) hv]
  simp only [addrB, if_true]
  rw [beB_beN xs 8 8 (by omega), beB_beN xs 16 8 (by omega), beB_beN xs 24 8 (by omega), beB_beN xs 32 8 (by omega)]
  rw [show xs.take 40 = xs.take 8 ++ ((xs.drop 8).take 8 ++ ((xs.drop 16).take 8 ++ ((xs.drop 24).take 8 ++ (xs.drop 32).take 8))) from ?_]
  · simp
  · rw [show 40 = 8 + (8 + (8 + (8 + 8))) from rfl, List.take_add, List.take_add, List.take_add, List.take_add, List.drop_drop, List.drop_drop, List.drop_drop]
/-- The bytes of what was parsed. -/
theorem all_again (xs : List UInt8) (sz : Nat) (acc : List (Int × List UInt8)) (next : Nat) (rest : List UInt8) (h : 40 + sz ≤ xs.length) (hv : (xs.getD 0 0).toNat / 16 = 6) (hsz : beN xs 4 2 = sz)
    (hn : nextP acc (next : Int) = ((xs.getD 6 0).toNat : Int)) (hb : (xs.take (40 + sz)).drop 40 = extB acc (next : Int) ++ rest) :
    allB6 (beN xs 0 4 / 1048576 % 256) (beN xs 0 4 % 1048576) (xs.getD 7 0).toNat (beN xs 8 8) (beN xs 16 8) (beN xs 24 8) (beN xs 32 8) next acc rest = xs.take (40 + sz) := by
  have hl : (extB acc (next : Int) ++ rest).length = sz := by
    rw [← hb, List.length_drop, List.length_take]
    omega
  unfold allB6
  rw [hl, hn, Int.toNat_natCast, ← hsz, head_again xs (by omega) hv, hsz, ← hb]
  conv => rhs; rw [← List.take_append_drop 40 (xs.take (40 + sz))]
  rw [List.take_take, Nat.min_eq_left (by omega)]
theorem rightTo_len {es : List (Int × List UInt8)} (h : rightTo es es.length = true) : ∀ e ∈ es, e.2.length ≤ 2047 := by
  intro e he
  obtain ⟨i, hi, rfl⟩ := List.getElem_of_mem he
  have h1 := rightTo_le _ h (k := i + 1) (by omega)
  rw [rightTo_succ _ i _ (List.getElem?_eq_getElem hi)] at h1
  simp only [Bool.and_eq_true] at h1
  have h2 := h1.2.1
  unfold rightExtB at h2
  simp only [Bool.and_eq_true, decide_eq_true_eq] at h2
  exact h2.2.2.2.1
theorem Ends.form {k : Nat} {R : Option (List (Int × List UInt8) × Nat × List UInt8)} {cls lab hop shi slo dhi dlo : Nat} {w w' : World} {e : Ending} (h : Ends k R cls lab hop shi slo dhi dlo w w' e) :
    ∃ (cl la ho : Int) (b1 : Bool) (sh sl : Int) (b2 : Bool) (dh dl : Int) (X : Option Addr) (m xc nx : Nat) (A2 : Option Addr) (n2 c2 : Nat) (es : List Ext) (rest : List UInt8),
      e = .returned (.tuple #[hdV cl la ho b1 sh sl b2 dh dl X m xc nx, .slice A2 n2 c2, .int .i64 (k : Int)]) ∧ IsX w' w'.heap.size X m es ∧ m ≤ xc ∧ xc ≤ maxLen ∧ IsB w' w'.heap.size A2 n2 rest ∧ n2 ≤ c2 ∧ c2 ≤ maxLen ∧
      (k ≠ 0 → cl = 0 ∧ la = 0 ∧ ho = 0 ∧ b1 = false ∧ sh = 0 ∧ sl = 0 ∧ b2 = false ∧ dh = 0 ∧ dl = 0 ∧ X = none ∧ m = 0 ∧ xc = 0 ∧ nx = 0 ∧ A2 = none ∧ n2 = 0 ∧ c2 = 0) ∧
      (k = 0 → R = some (pes es, nx, rest) ∧ cl = cls ∧ la = lab ∧ ho = hop ∧ b1 = true ∧ sh = shi ∧ sl = slo ∧ b2 = true ∧ dh = dhi ∧ dl = dlo) ∧ Below w.heap.size w w' := by
  obtain ⟨h1, h2, h3⟩ := h
  by_cases hk : k = 0
  · obtain ⟨acc, next, rest, hR, X, xc, es, A2, c2, he, hes, hX, hr⟩ := h2 hk
    obtain ⟨hx1, hx2, hx3⟩ := hX.isX
    obtain ⟨_, r1, r2, r3⟩ := hr.reads
    subst hk
    exact ⟨cls, lab, hop, true, shi, slo, true, dhi, dlo, X, es.length, xc, next, A2, rest.length, c2, es, rest, he, hx1, hx2, hx3, r3, r1, r2, fun h => absurd rfl h, fun _ => ⟨by rw [hR, ← hes]; rfl, rfl, rfl, rfl, rfl, rfl, rfl, rfl, rfl, rfl⟩, h3⟩
  · exact ⟨0, 0, 0, false, 0, 0, false, 0, 0, none, 0, 0, 0, none, 0, 0, [], [], h1 hk, IsX.nil _ _ _, by omega, by unfold maxLen; omega, IsB.nil _ _ _, by omega, by unfold maxLen; omega, fun _ => ⟨rfl, rfl, rfl, rfl, rfl, rfl, rfl, rfl, rfl, rfl, rfl, rfl, rfl, rfl, rfl, rfl⟩, fun h => absurd h hk, h3⟩
end Six
end Go.Proofs.Ytdmgbngdpjcliaa
/- What four.Parse and six.Parse make of bytes, wherever they lie: the same. Conditions: slices of bytes that read as lists, sizes below 2^40. -/
namespace Go.Proofs.Ytdmgbngdpjcliaa
open Go.RowKit Go.ChangeShapes Go.WideShapes Go.ChangeAt Go.Deep
namespace Tun
/-- four.Parse, wherever the bytes lie. -/
def FourIs (n : Nat) (xs : List UInt8) (K tos id : Nat) (df mf : Bool) (frag ttl proto slo dlo n1 m1 : Nat) (rest : List UInt8) : Prop :=
  ∀ (A : Option Addr) (c : Nat) (W : World), IsB W W.heap.size A n xs → n ≤ c → c ≤ maxLen → Calls Try.prog 27 #[.slice A n c] W fun e w' => ∃ A1 c1 A2 c2,
    e = .returned (.tuple #[Four.hdV tos id df mf frag ttl proto false 0 slo false 0 dlo A1 n1 c1, .slice A2 m1 c2, .int .i64 (K : Int)]) ∧ IsB w' w'.heap.size A2 m1 rest ∧ m1 ≤ c2 ∧ c2 ≤ maxLen ∧ Below W.heap.size W w'
theorem four_bad {n : Nat} {xs : List UInt8} (K : Nat) (h : ∀ (A : Option Addr) (c : Nat) (W : World), IsB W W.heap.size A n xs → n ≤ c → Calls Try.prog 27 #[.slice A n c] W fun e w' => e = .returned (.tuple #[Four.hd0, .slice none 0 0, .int .i64 (K : Int)]) ∧ Below W.heap.size W w') :
    FourIs n xs K 0 0 false false 0 0 0 0 0 0 0 [] := fun A c W hx hc _ => (h A c W hx hc).mono fun _ w' ⟨he, hb⟩ => ⟨none, 0, none, 0, he, IsB.nil _ _ _, by omega, by unfold maxLen; omega, hb⟩
/-- What it makes of them: why nothing, or a header and what is behind it. -/
theorem four_is (n : Nat) (xs : List UInt8) (hxl : xs.length = n) (hnm : n ≤ 1099511627776) :
    (∃ K, K ≠ 0 ∧ K ≤ 20 ∧ FourIs n xs K 0 0 false false 0 0 0 0 0 0 0 []) ∨
    ∃ (tos id : Nat) (df mf : Bool) (frag ttl proto slo dlo n1 m1 : Nat) (rest : List UInt8), 20 + n1 + m1 ≤ n ∧ n1 ≤ 40 ∧ ttl ≤ 255 ∧ proto ≤ 255 ∧ frag ≤ 8191 ∧ slo < 4294967296 ∧ dlo < 4294967296 ∧ FourIs n xs 0 tos id df mf frag ttl proto slo dlo n1 m1 rest := by
  by_cases h1 : n < 20
  · exact .inl ⟨2, by omega, by omega, four_bad 2 fun A c w hx hc => Four.parse_short A n c xs w hx hc hnm h1⟩
  by_cases h2 : (xs.getD 0 0).toNat / 16 = 4
  case neg => exact .inl ⟨10, by omega, by omega, four_bad 10 fun A c w hx hc => Four.parse_version A n c xs w hx hc hnm (by omega) h2⟩
  obtain ⟨s, hs⟩ : ∃ s, (xs.getD 0 0).toNat % 16 * 4 = s := ⟨_, rfl⟩
  by_cases h3 : s < 20
  · exact .inl ⟨11, by omega, by omega, four_bad 11 fun A c w hx hc => Four.parse_header1 A n c xs w hx hc hnm (by omega) h2 s hs h3⟩
  by_cases h4 : n < s
  · exact .inl ⟨11, by omega, by omega, four_bad 11 fun A c w hx hc => Four.parse_header2 A n c xs w hx hc hnm (by omega) h2 s hs (by omega) h4⟩
  by_cases h5 : beN xs 6 2 / 32768 = 0
  case neg => exact .inl ⟨11, by omega, by omega, four_bad 11 fun A c w hx hc => Four.parse_header3 A n c xs w hx hc hnm (by omega) h2 s hs (by omega) (by omega) h5⟩
  by_cases h6 : beN xs 2 2 < s
  · exact .inl ⟨12, by omega, by omega, four_bad 12 fun A c w hx hc => Four.parse_length1 A n c xs w hx hc hnm (by omega) h2 s hs (by omega) (by omega) h5 h6⟩
  by_cases h7 : n < beN xs 2 2
  · exact .inl ⟨12, by omega, by omega, four_bad 12 fun A c w hx hc => Four.parse_length2 A n c xs w hx hc hnm (by omega) h2 s hs (by omega) (by omega) h5 (by omega) h7⟩
  by_cases h8 : Sum.ones (Sum.tot false (xs.take s)) = 65535
  case neg => exact .inl ⟨13, by omega, by omega, four_bad 13 fun A c w hx hc => Four.parse_sum A n c xs w hx hc hnm (by omega) h2 s hs (by omega) (by omega) h5 (by omega) (by omega) h8⟩
  have g1 := (xs.getD 0 0).toNat_lt
  have g2 := (xs.getD 8 0).toNat_lt
  have g3 := (xs.getD 9 0).toNat_lt
  refine .inr ⟨(xs.getD 1 0).toNat, beN xs 4 2, decide (beN xs 6 2 / 16384 % 2 = 1), decide (beN xs 6 2 / 8192 % 2 = 1), beN xs 6 2 % 8192, (xs.getD 8 0).toNat, (xs.getD 9 0).toNat, beN xs 12 4, beN xs 16 4, s - 20, beN xs 2 2 - s, (xs.take (beN xs 2 2)).drop s, by omega, by omega, by omega, by omega, by omega, beN_lt xs 12 4, beN_lt xs 16 4, ?_⟩
  intro A c W hx hc _
  refine (Four.parse_ok A n c xs W hx hc hnm (by omega) h2 s hs (by omega) (by omega) h5 (by omega) (by omega) h8).mono ?_
  rintro e w' ⟨A1, c1, A2, c2, rfl, _, _, _, i4, i5⟩
  obtain ⟨_, r1, r2, r3⟩ := i4.reads
  exact ⟨A1, c1, A2, c2, rfl, r3, r1, r2, i5⟩
/-- six.Parse, wherever the bytes lie. -/
def SixIs (n : Nat) (xs : List UInt8) (K : Nat) (cl la ho : Int) (b1 : Bool) (sh sl : Int) (b2 : Bool) (dh dl : Int) (acc : List (Int × List UInt8)) (nx m1 : Nat) (rest : List UInt8) : Prop :=
  ∀ (A : Option Addr) (c : Nat) (W : World), IsB W W.heap.size A n xs → n ≤ c → c ≤ maxLen → Calls Try.prog 12 #[.slice A n c] W fun e w' => ∃ X m xc A2 c2 es,
    e = .returned (.tuple #[Six.hdV cl la ho b1 sh sl b2 dh dl X m xc nx, .slice A2 m1 c2, .int .i64 (K : Int)]) ∧ Six.pes es = acc ∧ Six.IsX w' w'.heap.size X m es ∧ m ≤ xc ∧ xc ≤ maxLen ∧ IsB w' w'.heap.size A2 m1 rest ∧ m1 ≤ c2 ∧ c2 ≤ maxLen ∧ Below W.heap.size W w'
theorem six_is (n : Nat) (xs : List UInt8) (hxl : xs.length = n) (hnm : n ≤ 1099511627776) :
    (∃ K, K ≠ 0 ∧ K ≤ 20 ∧ SixIs n xs K 0 0 0 false 0 0 false 0 0 [] 0 0 []) ∨
    ∃ (cl la ho sh sl dh dl : Nat) (acc : List (Int × List UInt8)) (nx m1 : Nat) (rest : List UInt8), ho ≤ 255 ∧ nx ≤ 255 ∧ acc.length ≤ 8 ∧ (∀ e ∈ acc, e.2.length ≤ 2047) ∧ 40 + Six.sumP acc + m1 ≤ n ∧ sh < 18446744073709551616 ∧ sl < 18446744073709551616 ∧ dh < 18446744073709551616 ∧ dl < 18446744073709551616 ∧ SixIs n xs 0 cl la ho true sh sl true dh dl acc nx m1 rest := by
  have hp := fun (A : Option Addr) (c : Nat) (W : World) (h : IsB W W.heap.size A n xs) (hc : n ≤ c) (hcm : c ≤ maxLen) => Six.parse_any A n c xs W h hc hcm hnm _ _ _ _ _ _ _ rfl rfl rfl rfl rfl rfl rfl
  by_cases hk : Six.parseK n xs = 0
  · right
    rcases hR : Six.parseR xs with _ | ⟨acc, nx, rest⟩
    · exfalso
      unfold Six.parseK at hk
      unfold Six.parseR at hR
      rw [hR] at hk
      simp only [Option.isNone_none, if_true] at hk
      split at hk
      · omega
      · split at hk
        · omega
        · split at hk <;> omega
    · have hk2 := hk
      unfold Six.parseK at hk2
      have h40 : 40 ≤ n := by
        by_cases h : n < 40
        · rw [if_pos h] at hk2; omega
        · omega
      rw [if_neg (show ¬ n < 40 by omega)] at hk2
      have hv : (xs.getD 0 0).toNat / 16 = 6 := by
        by_cases h : (xs.getD 0 0).toNat / 16 = 6
        · exact h
        · rw [if_pos h] at hk2; omega
      rw [if_neg (show ¬ ((xs.getD 0 0).toNat / 16 ≠ 6) from fun h => h hv)] at hk2
      have hsz : beN xs 4 2 ≤ n - 40 := by
        by_cases h : n - 40 < beN xs 4 2
        · rw [if_pos h] at hk2; omega
        · omega
      have hR2 := hR
      unfold Six.parseR at hR2
      have h6 : (xs.getD 6 0).toNat ≤ 255 := by have := (xs.getD 6 0).toNat_lt; omega
      obtain ⟨new, e1, e2, e3, e4, e5, e6, e7⟩ := Six.chainF_sound 9 _ _ [] acc nx rest hR2 rfl rfl (by simp) h6
      rw [List.nil_append] at e1
      subst e1
      have hall := fun e he => (Six.rightTo_len e4 e he)
      have hl3 := congrArg List.length e3
      rw [List.length_append, List.length_drop, List.length_take, Six.extB_length] at hl3
      refine ⟨beN xs 0 4 / 1048576 % 256, beN xs 0 4 % 1048576, (xs.getD 7 0).toNat, _, _, _, _, acc, nx, rest.length, rest, ?_, e6, e7, hall, by omega, beN_lt xs 8 8, beN_lt xs 16 8, beN_lt xs 24 8, beN_lt xs 32 8, fun A c W hx hc hcm => (hp A c W hx hc hcm).mono ?_⟩
      · have := (xs.getD 7 0).toNat_lt; omega
      · rintro e w' ⟨_, h2, h3⟩
        obtain ⟨acc', next', rest', hR', X, xc, es, A2, c2, he, hes, hX, hr⟩ := h2 hk
        rw [hR] at hR'
        cases hR'
        obtain ⟨hx1, hx2, hx3⟩ := hX.isX
        obtain ⟨_, r1, r2, r3⟩ := hr.reads
        exact ⟨X, es.length, xc, A2, c2, es, he, hes, hx1, hx2, hx3, r3, r1, r2, h3⟩
  · left
    refine ⟨Six.parseK n xs, hk, ?_, fun A c W hx hc hcm => (hp A c W hx hc hcm).mono ?_⟩
    · unfold Six.parseK
      split
      · omega
      · split
        · omega
        · split
          · omega
          · split <;> omega
    · rintro e w' ⟨h1, _, h3⟩
      exact ⟨none, 0, 0, none, 0, [], h1 hk, rfl, Six.IsX.nil _ _ _, by omega, by unfold maxLen; omega, IsB.nil _ _ _, by omega, by unfold maxLen; omega, h3⟩
end Tun
end Go.Proofs.Ytdmgbngdpjcliaa
/- (six.Head).More, by contract. -/
namespace Go.Proofs.Ytdmgbngdpjcliaa
open Go.RowKit Go.ChangeShapes Go.WideShapes Go.ChangeAt Go.Deep
namespace Six
/-- Do more parts follow? -/
def moreP (es : List (Int × List UInt8)) : Bool := beN (partP es) 1 2 % 2 == 1
set_option maxRecDepth 4000 in
set_option maxHeartbeats 2000000 in
theorem more_any (cls lab hop : Int) (sv : Bool) (shi slo : Int) (dv : Bool) (dhi dlo : Int) (X : Option Addr) (n c : Nat) (proto : Int) (es : List Ext) (w : World) (hx : IsX w w.heap.size X n es) (hn : n ≤ maxLen) :
    Calls Try.prog 87 #[hdV cls lab hop sv shi slo dv dhi dlo X n c proto] w fun e w' => e = .returned (.bool (moreP (pes es))) ∧ Below w.heap.size w w' := by
  have hx1 := hx.alloc (hdC cls lab hop sv shi slo dv dhi dlo X n c proto)
  unfold hdC at hx1
  obtain ⟨v, hv⟩ : ∃ v, beN (partB es) 1 2 = v := ⟨_, rfl⟩
  have hvl : v < 65536 := by rw [← hv]; exact beN_lt _ 1 2
  have hbm : bits .and .u64 (v : Int) 1 = ((v % 2 : Nat) : Int) := (bits_mask .u64 64 (by decide) wrapsu64 1 (by decide) (v : Int) (by omega) (by omega)).trans (by omega)
  have hm : moreP (pes es) = (v % 2 == 1) := by unfold moreP pes; rw [← partB_eq, hv]
  rw [hm]
  replace hx := hide hx
  replace hx1 := hide hx1
  replace hv := hide hv
  replace hm := hide hm
  replace hbm := hide hbm
  unfold hdV
  go_enter Try.func87, Try.ntmps87
  go_wp2_with fail
  refine (part_any cls lab hop sv shi slo dv dhi dlo X n c proto es _ hx1.out hn).mono ?_
  rintro e w1 ⟨rfl, hb1⟩
  have hbw := ((Below.refl w.heap.size w).alloc (Nat.le_refl _) (hdC cls lab hop sv shi slo dv dhi dlo X n c proto)).trans (hb1.mono (by simp))
  obtain ⟨A', n', c', hpv, hpr, hpn⟩ := partV_read es w1 w1.heap.size (hx1.out.on hb1).2.2
  rw [hpv]
  clear hpv hb1
  replace hbw := hide hbw
  replace hpr := hide hpr
  go_wp2_with fail
  refine (Octet.at_lit _ _ 1 2 rfl rfl _ _ _ (partB es) _ hpr.out hpn (by omega) (by omega)).mono ?_
  rintro e w' ⟨rfl, rfl⟩
  rw [hv.out]
  go_wp2_with fail
  rw [hbm.out]
  go_ret
  refine ⟨?_, hbw.out⟩
  rcases Nat.mod_two_eq_zero_or_one v with h | h <;> rw [h] <;> rfl
end Six
end Go.Proofs.Ytdmgbngdpjcliaa
/- Plain laws: what is parsed of a datagram's and of a segment's bytes. Conditions: numbers that may be. -/
namespace Go.Proofs.Ytdmgbngdpjcliaa
theorem two_split (N : Nat) : beB N 2 = [UInt8.ofNat (N / 256), UInt8.ofNat N] := by simp [beB]
theorem ones_ck (T : Nat) : Sum.ones (T + Udp.ckP (65535 - Sum.ones T)) = 65535 := by
  unfold Udp.ckP
  split
  · rename_i h
    have := Sum.ones_le T
    have h1 : Sum.ones T = 65535 := by omega
    rw [← h1]
    refine Sum.ones_congr (by omega) ?_
    unfold Sum.ones at h1
    split at h1 <;> omega
  · exact Sum.ones_check T
namespace Udp
theorem ckP_le (c : Nat) (h : c ≤ 65535) : ckP c ≤ 65535 ∧ ckP c ≠ 0 := by
  unfold ckP
  split <;> omega
theorem dg_form (s d C : Nat) (xs : List UInt8) : setB (dg0 s d xs) 6 (beB C 2) = beB s 2 ++ (beB d 2 ++ (beB (8 + xs.length) 2 ++ (beB C 2 ++ xs))) := by
  simp [dg0, setB, allB, two_split]
theorem dg0_zero (s d : Nat) (xs : List UInt8) : ((dg0 s d xs).drop 6).take 2 = [0, 0] := by
  simp [dg0, allB, two_split]
theorem dg_parse (bare : Bool) (ps : List UInt8) (s d : Nat) (xs : List UInt8) (he : ps.length % 2 = 0) (hs : s ≤ 65535) (hd : d ≤ 65535) (hl : 8 + xs.length ≤ 65535) :
    parseK bare ps (dgB ps s d xs) = 0 ∧ beN (dgB ps s d xs) 0 2 = s ∧ beN (dgB ps s d xs) 2 2 = d ∧ (dgB ps s d xs).length = 8 + xs.length ∧ (dgB ps s d xs).drop 8 = xs := by
  obtain ⟨C, hC⟩ : ∃ C, ckP (65535 - Sum.ones (Sum.tot false (ps ++ dg0 s d xs))) = C := ⟨_, rfl⟩
  have hC2 := ckP_le (65535 - Sum.ones (Sum.tot false (ps ++ dg0 s d xs))) (by omega)
  rw [hC] at hC2
  have hsum : Sum.ones (Sum.tot false (ps ++ dgB ps s d xs)) = 65535 := by
    unfold dgB
    rw [hC, Sum.tot_set ps (dg0 s d xs) 6 C hC2.1 (by rw [dg0_length]; omega) (dg0_zero s d xs) (by omega), ← hC]
    exact ones_ck _
  have hf : dgB ps s d xs = beB s 2 ++ (beB d 2 ++ (beB (8 + xs.length) 2 ++ (beB C 2 ++ xs))) := by
    unfold dgB
    rw [hC]
    exact dg_form s d C xs
  have hlen : (dgB ps s d xs).length = 8 + xs.length := by rw [hf]; simp [beB_length]; omega
  have e0 : beN (dgB ps s d xs) 0 2 = s := by
    rw [hf]
    exact beN_put s 2 [] _ 0 rfl (by omega)
  have e2 : beN (dgB ps s d xs) 2 2 = d := by
    rw [hf]
    exact beN_put d 2 (beB s 2) _ 2 (beB_length _ _) (by omega)
  have e4 : beN (dgB ps s d xs) 4 2 = 8 + xs.length := by
    rw [hf, ← List.append_assoc]
    exact beN_put (8 + xs.length) 2 (beB s 2 ++ beB d 2) _ 4 (by simp [beB_length]) (by omega)
  have e6 : beN (dgB ps s d xs) 6 2 = C := by
    rw [hf, ← List.append_assoc, ← List.append_assoc]
    exact beN_put C 2 ((beB s 2 ++ beB d 2) ++ beB (8 + xs.length) 2) _ 6 (by simp [beB_length]) (by omega)
  refine ⟨?_, e0, e2, hlen, ?_⟩
  · unfold parseK
    rw [hlen, e4, e6, hsum, if_neg (by omega), if_neg (by simp), if_neg hC2.2, if_pos rfl]
  · rw [hf]
    simp [two_split]
end Udp
namespace Tcp
theorem sg_form (s d fl C : Nat) (xs : List UInt8) : setB (sg0 s d fl xs) 16 (beB C 2) = beB s 2 ++ (beB d 2 ++ ([0, 0, 0, 0, 0, 0, 0, 0, 80, UInt8.ofNat fl, 4, 0] ++ (beB C 2 ++ ([0, 0] ++ xs)))) := by
  simp [sg0, setB, allB, beB]
theorem sg0_zero (s d fl : Nat) (xs : List UInt8) : ((sg0 s d fl xs).drop 16).take 2 = [0, 0] := by
  simp [sg0, allB, beB]
theorem sg_parse (ps : List UInt8) (s d fl : Nat) (xs : List UInt8) (he : ps.length % 2 = 0) (hs : s ≤ 65535) (hd : d ≤ 65535) (hfl : fl ≤ 255) :
    parseK ps (sgB ps s d fl xs) = 0 ∧ beN (sgB ps s d fl xs) 0 2 = s ∧ beN (sgB ps s d fl xs) 2 2 = d ∧ ((sgB ps s d fl xs).getD 13 0).toNat = fl ∧ (sgB ps s d fl xs).length = 20 + xs.length ∧ (sgB ps s d fl xs).drop 20 = xs := by
  obtain ⟨C, hC⟩ : ∃ C, 65535 - Sum.ones (Sum.tot false (ps ++ sg0 s d fl xs)) = C := ⟨_, rfl⟩
  have hC2 : C ≤ 65535 := by omega
  have hsum : Sum.ones (Sum.tot false (ps ++ sgB ps s d fl xs)) = 65535 := by
    unfold sgB
    rw [hC, Sum.tot_set ps (sg0 s d fl xs) 16 C hC2 (by rw [sg0_length]; omega) (sg0_zero s d fl xs) (by omega), ← hC]
    exact Sum.ones_check _
  have hf : sgB ps s d fl xs = beB s 2 ++ (beB d 2 ++ ([0, 0, 0, 0, 0, 0, 0, 0, 80, UInt8.ofNat fl, 4, 0] ++ (beB C 2 ++ ([0, 0] ++ xs)))) := by
    unfold sgB
    rw [hC]
    exact sg_form s d fl C xs
  have hlen : (sgB ps s d fl xs).length = 20 + xs.length := by rw [hf]; simp [beB_length]; omega
  have e0 : beN (sgB ps s d fl xs) 0 2 = s := by
    rw [hf]
    exact beN_put s 2 [] _ 0 rfl (by omega)
  have e2 : beN (sgB ps s d fl xs) 2 2 = d := by
    rw [hf]
    exact beN_put d 2 (beB s 2) _ 2 (beB_length _ _) (by omega)
  have e12 : (sgB ps s d fl xs).getD 12 0 = 80 := by
    rw [hf]
    simp [two_split]
  have e13 : (sgB ps s d fl xs).getD 13 0 = UInt8.ofNat fl := by
    rw [hf]
    simp [two_split]
  refine ⟨?_, e0, e2, ?_, hlen, ?_⟩
  · unfold parseK
    rw [hlen, e12, hsum, if_neg (by omega), if_neg (by simp), if_pos rfl]
  · rw [e13, UInt8.toNat_ofNat']
    omega
  · rw [hf]
    simp [two_split]
end Tcp
end Go.Proofs.Ytdmgbngdpjcliaa
