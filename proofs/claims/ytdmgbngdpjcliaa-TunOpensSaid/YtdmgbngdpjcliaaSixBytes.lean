/- six.Bytes of a header that may be, by contract. Conditions: slices that read as lists, numbers as a header may have them. -/
import Derived.Test.YtdmgbngdpjcliaaSixLawBytes
import Derived.Test.YtdmgbngdpjcliaaAllLit
import Derived.Test.YtdmgbngdpjcliaaRegionK
namespace Go.Proofs.Ytdmgbngdpjcliaa
open Go.RowKit Go.ChangeShapes Go.WideShapes Go.ChangeAt Go.Deep
section
variable {Q : Exit → Act → World → Prop} {md : Region.Mode}
/-- append, as the one step of a region's tail. -/
theorem wpT_src (i : Nat) {L : List Oper} {o : Oper} {rest : List Oper} {fuel : Nat} {listed : Array Bool} {a : Act} {w : World} (hd : L.drop i = o :: rest) (hrd : Region.ready md L.toArray listed = [i]) (hgd : o.guard = none) (s x : Operand)
    (ho : o.op = .call { callee := .builtin .append, args := #[s, x], argTypes := #[22, 22] })
    (base : Nat) (v : Value) (xs ys : List UInt8) (A : Option Addr) (m c B : Nat) (hs : a.eval s = v) (hx : a.eval x = .slice A m c) (hown : OwnB w base v xs) (hr : IsB w B A m ys) (hbase : base ≤ w.heap.size) (hb : xs.length + m ≤ 1099511627776)
    (h : ∀ v' w', OwnB w' base v' (xs ++ ys) → Grew w v w' v' → wpAny Try.prog md L.toArray Q fuel (listed.setIfInBounds i true) (a.put o.dst v') w') : wpAny Try.prog md L.toArray Q (fuel + 1) listed a w := by
  refine wpT_step i hd hrd fun K hK => ?_
  have hw : Region.wanted o (yielded L.toArray a.tmps) = true := by unfold Region.wanted; rw [hgd]
  rw [if_pos hw]
  exact wp_src_bv s x ho base v xs ys A m c B hs hx hown hr hbase hb fun v' w' h1 h2 => hK _ _ (h v' w' h1 h2)
end
namespace Six
theorem sumL_pes (es : List Ext) : sumL es = sumP (pes es) := by
  unfold sumL sumP pes
  rw [List.map_map]
  rfl
theorem of8 {a b : Nat} (h : a % 256 = b % 256) : UInt8.ofNat a = UInt8.ofNat b := by
  apply UInt8.toNat.inj
  rw [UInt8.toNat_ofNat', UInt8.toNat_ofNat']
  exact h
theorem hd_eq (cls lab hop next T shi slo dhi dlo : Nat) (_h1 : cls ≤ 255) (h2 : lab ≤ 1048575) :
    beB (1610612736 + cls * 1048576 + lab) 4 ++ beB T 2 ++ [UInt8.ofNat next, UInt8.ofNat hop] ++ allB 8 [shi, slo, dhi, dlo] = hd8 cls lab hop next T ++ addrB true shi slo ++ addrB true dhi dlo := by
  have e : beB (1610612736 + cls * 1048576 + lab) 4 = [UInt8.ofNat (96 + cls / 16), UInt8.ofNat (cls % 16 * 16 + lab / 65536), UInt8.ofNat (lab / 256), UInt8.ofNat lab] := by
    simp only [beB, Nat.reducePow, Nat.div_one]
    rw [of8 (show (1610612736 + cls * 1048576 + lab) / 16777216 % 256 = (96 + cls / 16) % 256 by omega), of8 (show (1610612736 + cls * 1048576 + lab) / 65536 % 256 = (cls % 16 * 16 + lab / 65536) % 256 by omega),
      of8 (show (1610612736 + cls * 1048576 + lab) / 256 % 256 = (lab / 256) % 256 by omega), of8 (show (1610612736 + cls * 1048576 + lab) % 256 = lab % 256 by omega)]
  rw [e]
  simp [hd8, addrB, allB, beB]
theorem hd8_length (cls lab hop next T : Nat) : (hd8 cls lab hop next T).length = 8 := rfl
theorem allB6_length (cls lab hop shi slo dhi dlo proto : Nat) (es : List (Int × List UInt8)) (ps : List UInt8) : (allB6 cls lab hop shi slo dhi dlo proto es ps).length = 40 + sumP es + ps.length := by
  unfold allB6
  simp only [List.length_append, hd8_length, addrB, if_true, beB_length, extB_length]
  omega
set_option maxRecDepth 4000 in
set_option maxHeartbeats 4000000 in
theorem next_any (cls lab hop : Int) (sv : Bool) (shi slo : Int) (dv : Bool) (dhi dlo : Int) (X : Option Addr) (n c : Nat) (proto : Int) (es : List Ext) (i nx : Nat) (ii : Int) (hii : ii = (i : Int)) (w : World) (hx : IsX w w.heap.size X n es) (hn : n ≤ maxLen) (hi : i ≤ n)
    (hnx : nextP ((pes es).drop i) proto = (nx : Int)) :
    Calls Try.prog 77 #[hdV cls lab hop sv shi slo dv dhi dlo X n c proto, .int .i64 ii] w fun e w' => e = .returned (.int .i64 (nx : Int)) ∧ Below w.heap.size w w' := by
  subst hii
  unfold maxLen at hn
  have hbox := blk_new w 29 #[.int .i64 cls, .int .i64 lab, .int .i64 hop, .bool sv, .int .u64 shi, .int .u64 slo, .bool dv, .int .u64 dhi, .int .u64 dlo, .slice X n c, .int .i64 proto]
  obtain ⟨w1, hw1⟩ : ∃ w1, w.alloc (hdC cls lab hop sv shi slo dv dhi dlo X n c proto) = w1 := ⟨_, rfl⟩
  have hb1 : Below w.heap.size w w1 := hw1 ▸ (Below.refl _ _).alloc (Nat.le_refl _) _
  unfold hdC at hw1
  rw [hw1] at hbox
  have hcg := blk_cell hbox
  have hx1 := hx.on hb1
  have hpl : (pes es).length = n := by rw [pes_length]; exact hx.1
  replace hx := hide hx
  replace hb1 := hide hb1
  replace hbox := hide hbox
  replace hpl := hide hpl
  unfold hdV
  by_cases hlt : i < n
  · obtain ⟨b, off, k, Ae, ce, xs, rfl, hbl, hge, hc0, hc1, hbx, hxc, hxm⟩ := hx1.at hlt
    have hk : k = (nx : Int) := by
      rw [drop_get (pes_get hge)] at hnx
      exact hnx
    subst hk
    have hji : (i : Int) < (n : Int) := by omega
    have hj0 : (0 : Int) ≤ (i : Int) := by omega
    replace hx1 := hide hx1
    replace hnx := hide hnx
    replace hge := hide hge
    replace hbx := hide hbx
    go_enter Try.func77, Try.ntmps77
    go_wp2_with fail
    go_ret
    exact ⟨rfl, hb1.out⟩
  · have hk : proto = (nx : Int) := by
      rw [List.drop_of_length_le (by rw [hpl.out]; omega)] at hnx
      exact hnx
    subst hk
    have hji : ¬ (i : Int) < (n : Int) := by omega
    replace hx1 := hide hx1
    replace hnx := hide hnx
    go_enter Try.func77, Try.ntmps77
    go_wp2_with fail
    go_ret
    exact ⟨rfl, hb1.out⟩
theorem word6 (cls lab N : Nat) (h1 : cls ≤ 255) (h2 : lab ≤ 1048575) (hN : 1610612736 + cls * 1048576 + lab = N) : bits .or .u64 (bits .or .u64 1610612736 ((cls : Int) * 1048576)) (lab : Int) = (N : Int) := by
  have o1 : 1610612736 ||| cls * 1048576 = 1610612736 + cls * 1048576 := by
    have := Nat.two_pow_add_eq_or_of_lt (i := 28) (b := cls * 1048576) (by simp only [Nat.reducePow]; omega) 6
    simp only [Nat.reducePow, Nat.reduceMul] at this
    exact this.symm
  have o2 : (1610612736 + cls * 1048576) ||| lab = 1610612736 + cls * 1048576 + lab := by
    have := Nat.two_pow_add_eq_or_of_lt (i := 20) (b := lab) (by simp only [Nat.reducePow]; omega) (1536 + cls)
    simp only [Nat.reducePow] at this
    rw [show 1048576 * (1536 + cls) = 1610612736 + cls * 1048576 by omega] at this
    exact this.symm
  rw [show (1610612736 : Int) = ((1610612736 : Nat) : Int) from rfl, show (cls : Int) * 1048576 = ((cls * 1048576 : Nat) : Int) by simp, u64_or_nat _ _ (by omega) (by omega), o1, u64_or_nat _ _ (by omega) (by omega), o2, hN]
set_option maxRecDepth 20000 in
set_option maxHeartbeats 8000000 in
theorem bytes_any (cls lab hop : Nat) (sv : Bool) (shi slo : Nat) (dv : Bool) (dhi dlo : Nat) (X : Option Addr) (n c : Nat) (proto : Nat) (es : List Ext) (P : Option Addr) (m d : Nat) (ps : List UInt8) (w : World)
    (hx : IsX w w.heap.size X n es) (hnc : n ≤ c) (hcm : c ≤ maxLen) (hp : IsB w w.heap.size P m ps) (_hmd : m ≤ d) (_hdm : d ≤ maxLen) (hsv : sv = true) (hdv : dv = true)
    (b1 : cls ≤ 255) (b2 : lab ≤ 1048575) (b3 : hop ≤ 255) (b4 : proto ≤ 255) (b5 : shi < 18446744073709551616) (b6 : slo < 18446744073709551616) (b7 : dhi < 18446744073709551616) (b8 : dlo < 18446744073709551616)
    (hn : n ≤ 8) (hm : m ≤ 4096) (hk : ∀ e ∈ es, 0 ≤ e.k ∧ e.k ≤ 255) (hl : ∀ e ∈ es, e.xs.length ≤ 2047) (hr : rightHB cls lab hop sv dv proto (pes es) = true) :
    Calls Try.prog 41 #[hdV cls lab hop sv shi slo dv dhi dlo X n c proto, .slice P m d] w fun e w' => ∃ v, e = .returned (.tuple #[v, .int .i64 0]) ∧ OwnB w' w.heap.size v (allB6 cls lab hop shi slo dhi dlo proto (pes es) ps) ∧ Below w.heap.size w w' := by
  subst hsv hdv
  have hbox := blk_new w 29 #[.int .i64 cls, .int .i64 lab, .int .i64 hop, .bool true, .int .u64 shi, .int .u64 slo, .bool true, .int .u64 dhi, .int .u64 dlo, .slice X n c, .int .i64 proto]
  obtain ⟨w1, hw1⟩ : ∃ w1, w.alloc (hdC cls lab hop true shi slo true dhi dlo X n c proto) = w1 := ⟨_, rfl⟩
  have hb1 : Below w.heap.size w w1 := hw1 ▸ (Below.refl _ _).alloc (Nat.le_refl _) _
  have hlt1 : w.heap.size < w1.heap.size := by rw [← hw1]; simp
  unfold hdC at hw1
  rw [hw1] at hbox
  have hcg := blk_cell hbox
  have hx1 := hx.on hb1
  have hp1 := hp.on hb1
  have hpl : (pes es).length = n := by rw [pes_length]; exact hx.1
  have hpm := hp.1
  have hsum : sumP (pes es) ≤ 16384 := by
    have := sumP_le (pes es) (fun e he => by obtain ⟨e', he', rfl⟩ := List.mem_map.1 he; exact hl e' he')
    rw [hpl] at this
    omega
  obtain ⟨L0, hL0⟩ : ∃ L0, 40 + sumL es = L0 := ⟨_, rfl⟩
  have hL1 : 40 ≤ L0 := by omega
  have hL2 : L0 ≤ 16424 := by rw [← hL0, sumL_pes]; omega
  obtain ⟨T, hT⟩ : ∃ T, L0 - 40 + m = T := ⟨_, rfl⟩
  have hT1 : (extB (pes es) proto ++ ps).length = T := by rw [List.length_append, extB_length, ← sumL_pes, hpm]; omega
  obtain ⟨nx, hnx, hnx2⟩ : ∃ nx : Nat, nextP (pes es) proto = (nx : Int) ∧ nx ≤ 255 := by
    rcases es with _ | ⟨e, es⟩
    · exact ⟨proto, rfl, b4⟩
    · have := hk e (by simp)
      exact ⟨e.k.toNat, by show e.k = _; omega, by omega⟩
  have t1 : ¬ (65535 : Int) < (L0 : Int) - 40 + (m : Int) := by omega
  replace hx := hide hx
  replace hx1 := hide hx1
  replace hp := hide hp
  replace hp1 := hide hp1
  replace hb1 := hide hb1
  replace hbox := hide hbox
  replace hpl := hide hpl
  replace hk := hide hk
  replace hpm := hide hpm
  replace hsum := hide hsum
  replace hr := hide hr
  replace hL0 := hide hL0
  replace hT := hide hT
  replace hT1 := hide hT1
  replace hnx := hide hnx
  unfold hdV
  go_enter Try.func41, Try.ntmps41
  go_wp2_with fail
  refine (right_any cls lab hop true shi slo true dhi dlo X n c proto es _ hx1.out hnc hcm).mono ?_
  rw [hr.out]
  rintro e w2 ⟨rfl, hb2⟩
  have hg2 := blk_below hb2 hlt1 hbox.out
  have hB2 := hb1.out.trans (hb2.mono (Nat.le_of_lt hlt1))
  have hx2 := hx1.out.on hb2
  clear hcg hw1
  have hcg := blk_cell hg2
  have hlt2 := Nat.lt_of_lt_of_le hlt1 hb2.size
  replace hb2 := hide hb2
  replace hg2 := hide hg2
  replace hB2 := hide hB2
  replace hx2 := hide hx2
  go_wp2_with fail
  refine (len_any cls lab hop true shi slo true dhi dlo X n c proto es _ hx2.out hn hl L0 hL0.out).mono ?_
  rintro e w3 ⟨rfl, hb3⟩
  have hg3 := blk_below hb3 hlt2 hg2.out
  have hB3 := hB2.out.trans (hb3.mono (Nat.le_of_lt hlt2))
  have hx3 := hx2.out.on hb3
  clear hcg
  have hcg := blk_cell hg3
  have hlt3 := Nat.lt_of_lt_of_le hlt2 hb3.size
  replace hb3 := hide hb3
  replace hg3 := hide hg3
  replace hB3 := hide hB3
  replace hx3 := hide hx3
  obtain ⟨N, hN⟩ : ∃ N, 1610612736 + cls * 1048576 + lab = N := ⟨_, rfl⟩
  replace hN := hide hN
  go_wp2_with fail
  refine (put_lit _ _ N 4 ?e1 rfl w3.heap.size (.slice none 0 0) [] _ (OwnB.nil _ _) (Nat.le_refl _) (by have := hN.out; omega) (by omega) (by simp)).mono ?_
  case e1 => exact word6 cls lab N b1 b2 hN.out
  rintro e w4 ⟨v4, rfl, hown4, hg4⟩
  obtain ⟨B, hB⟩ : ∃ B, w3.heap.size = B := ⟨_, rfl⟩
  have hb4 := hg4.belowNil
  rw [hB] at hown4 hb4 hlt3
  have hxB := hx3.out
  have hpB := hp1.out.below (hb2.out.trans (hb3.out.mono hb2.out.size))
  rw [hB] at hxB
  have hpB := hpB.more (B' := B) (by have := hb2.out.size; have := hb3.out.size; omega)
  have hBx4 : Below B w3 w4 := hb4
  have hg4' := blk_below hBx4 hlt3 hg3.out
  have hx4 := (hxB.below hBx4).more (B' := w4.heap.size) (by have := hBx4.size; omega)
  have hz4 : B ≤ w4.heap.size := by have := hBx4.size; omega
  clear hcg hg4 hb4
  have hcg := blk_cell hg4'
  replace hown4 := hide hown4
  replace hBx4 := hide hBx4
  replace hg4' := hide hg4'
  replace hx4 := hide hx4
  replace hxB := hide hxB
  replace hpB := hide hpB
  replace hB := hide hB
  go_wp2_with fail
  refine (len_any cls lab hop true shi slo true dhi dlo X n c proto es _ hx4.out hn hl L0 hL0.out).mono ?_
  rintro e w5 ⟨rfl, hb5⟩
  have hBx5 := hBx4.out.trans (hb5.mono hz4)
  have hown5 := hown4.out.below hb5
  have hz5 : B ≤ w5.heap.size := Nat.le_trans hz4 hb5.size
  have hg5 := blk_below hBx5 hlt3 hg3.out
  clear hcg hb5
  have hcg := blk_cell hg5
  replace hown5 := hide hown5
  replace hBx5 := hide hBx5
  replace hg5 := hide hg5
  go_wp2_with fail
  refine (put_lit _ _ T 2 (by have := hT.out; omega) rfl B _ _ _ hown5.out hz5 (by have := hT.out; omega) (by omega) (by simp [beB_length])).mono ?_
  rintro e w6 ⟨v6, rfl, hown6, hg6⟩
  have hBx6 := hBx5.out.trans (hg6.below hown5.out hz5)
  have hz6 : B ≤ w6.heap.size := Nat.le_trans hz5 hg6.grown.size
  have hg6' := blk_below hBx6 hlt3 hg3.out
  have hlt6 : w.heap.size < w6.heap.size := by omega
  have hx6 := (hxB.out.below hBx6).more hz6
  have hcl := fun (l : Later w6) (o : Nat) => blk_cell (blk_below l.hb hlt6 hg6') o
  clear hcg hg6
  replace hown6 := hide hown6
  replace hBx6 := hide hBx6
  replace hg6' := hide hg6'
  replace hx6 := hide hx6
  go_wp2_with fail
  refine wp_region_L (by as_aux_lemma => kernel_rfl) ?_
  refine wpE_seg 0 7 (fuel := 3) (by as_aux_lemma => kernel_rfl) (fun d _ _ _ _ h => by cases d <;> exact h) (by as_aux_lemma => kernel_rfl) (by as_aux_lemma => kernel_rfl) ?_
  simp only [List.drop_zero, List.take_succ_cons, List.take_zero]
  iterate 2 (refine wpQE_step (fun K hK => ?_); go_simp; refine hK _ ?_; clear hK K)
  (refine wpQE_step (fun K hK => ?_); go_simp; apply Exists.intro; refine ⟨fun l => ?_, hK _ ?_⟩; (go_at_call 77; refine (next_any cls lab hop true shi slo true dhi dlo X n c proto es 0 nx _ rfl _ (hx6.out.later l) (by unfold maxLen; omega) (by omega) hnx.out).mono ?_; rintro e w' ⟨rfl, hb⟩; exact ⟨rfl, hb⟩); clear hK K)
  iterate 4 (refine wpQE_step (fun K hK => ?_); go_simp; refine hK _ ?_; clear hK K)
  refine wpQE_nil ?_
  have r1 : IntKind.u8.wrap (nx : Int) = (nx : Int) := wraps_u8 _ (by omega) (by omega)
  have r2 : IntKind.u8.wrap (hop : Int) = (hop : Int) := wraps_u8 _ (by omega) (by omega)
  rw [r1, r2]
  clear r1 r2 hcl
  refine wpE_step 7 (fuel := 2) rfl (by as_aux_lemma => kernel_rfl) (fun l K hK => ?_)
  go_simp
  have hzl := Nat.le_trans hz6 l.hb.size
  have hlit := OwnB.litv l.w l.w.heap.size [.int .u8 (nx : Int), .int .u8 (hop : Int)] [UInt8.ofNat nx, UInt8.ofNat hop] 2 (by simp only [List.map_cons, List.map_nil]; rw [u8v_nat _ (by omega), u8v_nat _ (by omega)]) rfl (Nat.le_refl _) (by omega)
  have hb7 : Below l.w.heap.size l.w (l.w.alloc (.cells [Value.int .u8 (nx : Int), .int .u8 (hop : Int)].toArray 5)) := (Below.refl _ _).alloc (Nat.le_refl _) _
  refine hK _ _ hb7 ?_
  clear hK K
  obtain ⟨w7, hw7⟩ : ∃ w7, l.w.alloc (.cells [Value.int .u8 (nx : Int), .int .u8 (hop : Int)].toArray 5) = w7 := ⟨_, rfl⟩
  rw [hw7] at hlit hb7
  rw [hw7]
  refine wpE_end (by as_aux_lemma => kernel_rfl) (fun l2 => ?_)
  have hBx8 := hBx6.out.trans ((l.hb.mono hz6).trans ((hb7.mono hzl).trans (l2.hb.mono (Nat.le_trans hzl hb7.size))))
  have hown8 := (hown6.out.below l.hb).below (hb7.trans (l2.hb.mono hb7.size))
  have hlit8 := (hlit.below l2.hb).reads.2.2.2
  have hz8 : B ≤ l2.w.heap.size := Nat.le_trans hz6 (Nat.le_trans l.hb.size (Nat.le_trans hb7.size l2.hb.size))
  refine wpT_src 8 rfl (by as_aux_lemma => kernel_rfl) rfl (.tmp 40) (.tmp 47) rfl B v6 _ _ _ _ _ _ rfl rfl hown8 hlit8 hz8 (by simp [beB_length]) fun v9 w9 hown9 hg9 => ?_
  refine wpT_step 9 rfl (by as_aux_lemma => kernel_rfl) (fun K hK => ?_)
  go_simp
  refine hK _ _ ?_
  clear hK K
  refine wpT_done (by as_aux_lemma => kernel_rfl) ?_ 0
  have hBx9 := hBx8.trans (hg9.below hown8 hz8)
  have hz9 : B ≤ w9.heap.size := Nat.le_trans hz8 hg9.grown.size
  have hg9' := blk_below hBx9 hlt3 hg3.out
  have hcg := blk_cell hg9'
  clear hg9 hown8 hlit8 hlit hb7 hw7 hBx8 hz8
  replace hown9 := hide hown9
  replace hBx9 := hide hBx9
  replace hg9' := hide hg9'
  go_wp2_with fail
  refine (all_lit B _ _ 8 _ rfl [shi, slo, dhi, dlo] _ rfl 4 _ rfl _ _ _ rfl hown9.out hz9 (by omega) (by simp [beB_length]) (by omega) ?_).mono ?_
  · intro N hN
    simp only [List.mem_cons, List.not_mem_nil, or_false] at hN
    omega
  rintro e w10 ⟨v10, rfl, hown10, hg10⟩
  have hBx10 := hBx9.out.trans (hg10.below hown9.out hz9)
  have hz10 : B ≤ w10.heap.size := Nat.le_trans hz9 hg10.grown.size
  obtain ⟨hb, hhb⟩ : ∃ hb, beB N 4 ++ beB T 2 ++ [UInt8.ofNat nx, UInt8.ofNat hop] ++ allB 8 [shi, slo, dhi, dlo] = hb := ⟨_, rfl⟩
  have hhl : hb.length = 40 := by rw [← hhb]; simp [beB_length, allB_length]
  have hown10' : OwnB w10 B v10 hb := by rw [← hhb]; simpa using hown10
  have hg10' := blk_below hBx10 hlt3 hg3.out
  clear hcg hg10 hown10
  have hcg := blk_cell hg10'
  replace hown10' := hide hown10'
  replace hBx10 := hide hBx10
  replace hg10' := hide hg10'
  replace hhb := hide hhb
  go_wp2_with fail
  clear hcg
  go_loopw [6, 67] (fun u i wr => ∃ (v : Value) (j : Nat) (ts : List UInt8), v = u ∧ j ≤ n ∧ i = .int .i64 (j : Int) ∧ ts ++ extB ((pes es).drop j) proto = extB (pes es) proto ∧ OwnB wr B u (hb ++ ts) ∧ Below B w3 wr) (fun _ i _ => n - (intOf i).toNat)
  case atStart => exact ⟨_, 0, [], rfl, Nat.zero_le _, rfl, by simp, by simpa using hown10'.out, hBx10.out⟩
  case round =>
    obtain ⟨v, j, ts, rfl, hj, rfl, hts, hu, hbr⟩ := hrel
    have htl : ts.length ≤ 16384 := by
      have h1 := congrArg List.length hts
      rw [List.length_append, extB_length (pes es)] at h1
      have := hsum.out
      omega
    have hzr : B ≤ wr.heap.size := by have := hbr.size; have := hB.out; omega
    have hgr := blk_below hbr hlt3 hg3.out
    have hxr := hxB.out.below hbr
    have hltr : w.heap.size < wr.heap.size := by omega
    by_cases hlt : j < n
    · obtain ⟨b, off, k, Ae, ce, xs, rfl, hbl, hge, hc0, hc1, hbx, hxc, hxm⟩ := hxr.at hlt
      have hpg := pes_get hge
      have hxl : xs.length ≤ 2047 := hl ⟨k, Ae, ce, xs⟩ (List.mem_of_getElem? hge)
      obtain ⟨nj, hnj, hnj2⟩ : ∃ nj : Nat, nextP ((pes es).drop (j + 1)) proto = (nj : Int) ∧ nj ≤ 255 := by
        rcases hd : (pes es).drop (j + 1) with _ | ⟨e, tl⟩
        · exact ⟨proto, rfl, b4⟩
        · have hm : e ∈ pes es := List.mem_of_mem_drop (hd ▸ List.mem_cons_self ..)
          obtain ⟨e', he', rfl⟩ := List.mem_map.1 hm
          have := hk.out e' he'
          exact ⟨e'.k.toNat, by show e'.k = _; omega, by omega⟩
      have hts2 : (ts ++ (UInt8.ofNat nj :: xs)) ++ extB ((pes es).drop (j + 1)) proto = extB (pes es) proto := by
        rw [← hts, drop_get hpg]
        simp [extB, hnj]
      have hji : (j : Int) < (n : Int) := by omega
      have hj0 : (0 : Int) ≤ (j : Int) := by omega
      have hcg := blk_cell hgr
      have hbw : Below wr.heap.size wr (wr.alloc (.cells #[.int .i64 k, .slice Ae xs.length ce] 73)) := (Below.refl _ _).alloc (Nat.le_refl _) _
      have hBw := hbr.trans (hbw.mono hzr)
      have hgw := blk_below hBw hlt3 hg3.out
      have hgx := blk_new wr 73 #[.int .i64 k, .slice Ae xs.length ce]
      have hxw := (hxB.out.below hBw).more (B' := (wr.alloc (.cells #[.int .i64 k, .slice Ae xs.length ce] 73)).heap.size) (by simp; omega)
      have huw := hu.below hbw
      have huw2 := hu
      have hlw : w.heap.size < (wr.alloc (.cells #[.int .i64 k, .slice Ae xs.length ce] 73)).heap.size := by simp; omega
      obtain ⟨wa, hwa⟩ : ∃ wa, wr.alloc (.cells #[.int .i64 k, .slice Ae xs.length ce] 73) = wa := ⟨_, rfl⟩
      have hlx : wr.heap.size < wa.heap.size := by rw [← hwa]; simp
      rw [hwa] at hbw hBw hgw hgx hxw huw hlw
      have hza : B ≤ wa.heap.size := by omega
      clear hge hu
      replace hts := hide hts
      replace hxr := hide hxr
      replace hpg := hide hpg
      replace hbx := hide hbx
      replace hgr := hide hgr
      replace hbr := hide hbr
      replace hbw := hide hbw
      replace hBw := hide hBw
      replace hgw := hide hgw
      replace hgx := hide hgx
      replace hxw := hide hxw
      replace huw := hide huw
      replace huw2 := hide huw2
      replace hnj := hide hnj
      replace hts2 := hide hts2
      replace hc0 := hide hc0
      replace hc1 := hide hc1
      have hc0' := hc0.out
      have hc1' := hc1.out
      go_wp2_with fail
      clear hcg hc0' hc1' hwa
      obtain ⟨row, hrow⟩ : ∃ row, Value.ownBlock v = row := ⟨_, rfl⟩
      have hug : ∀ k, row = some k → B ≤ k ∧ k < wa.heap.size := fun k e => huw.out.lt k (hrow.trans e)
      have hn1 : some w.heap.size ≠ row := fun e => by have := hug _ e.symm; omega
      have hn2 : some wr.heap.size ≠ row := fun e => by have := (huw2.out.lt _ (hrow.trans e.symm)).2; omega
      have hcl := fun (l : KeptW wa.heap.size row wa.drew) (o : Nat) => blk_cell (l.blk (show wa.drew.heap[w.heap.size]? = _ from hgw.out) hlw hn1) o
      have hcx := fun (l : KeptW wa.heap.size row wa.drew) (o : Nat) => blk_cell (l.blk (show wa.drew.heap[wr.heap.size]? = _ from hgx.out) hlx hn2) o
      have s1 : IntKind.i64.wrap ((j : Int) + 1) = ((j + 1 : Nat) : Int) := by rw [wraps62 _ (by omega) (by omega)]; omega
      refine wp_region_K wa.heap.size row (by as_aux_lemma => kernel_rfl) ?_
      refine wpK_seg wa.heap.size row 0 4 (fuel := 8) (by as_aux_lemma => kernel_rfl) (fun d _ _ _ _ h => by cases d <;> exact h) (by as_aux_lemma => kernel_rfl) (by as_aux_lemma => kernel_rfl) ?_
      simp only [List.drop_zero, List.take_succ_cons, List.take_zero]
      iterate 4 (refine wpQK_step (fun K hK => ?_); go_simp; refine hK _ ?_; clear hK K)
      refine wpQF_nil ?_
      refine wpK_seg wa.heap.size row 8 2 (fuel := 6) (by as_aux_lemma => kernel_rfl) (fun d _ _ _ _ h => by cases d <;> exact h) (by as_aux_lemma => kernel_rfl) (by as_aux_lemma => kernel_rfl) ?_
      simp only [List.drop_succ_cons, List.drop_zero, List.take_succ_cons, List.take_zero]
      iterate 2 (refine wpQK_step (fun K hK => ?_); go_simp; refine hK _ ?_; clear hK K)
      refine wpQF_nil ?_
      clear hcl hcx
      have hbd : Below wa.heap.size wa wa.drew := (Below.refl _ _).drew
      refine wpF_step 4 rfl (by as_aux_lemma => kernel_rfl) (fun K hK => ?_)
      go_simp
      go_at_call 77
      refine (next_any cls lab hop true shi slo true dhi dlo _ n c proto es (j + 1) nj _ (by omega) _ ((hxw.out.below hbd).more hbd.size) (by unfold maxLen; omega) (by omega) hnj.out).mono ?_
      rintro e w5 ⟨rfl, hb5⟩
      refine hK _ _ (kept_of_below hb5 (Nat.le_refl _)) ?_
      clear hK K
      have hb5' : Below wa.heap.size wa w5 := hbd.trans hb5
      have r1 : IntKind.u8.wrap (nj : Int) = (nj : Int) := wraps_u8 _ (by omega) (by omega)
      refine wpF_step 5 rfl (by as_aux_lemma => kernel_rfl) (fun K hK => ?_)
      go_simp
      refine hK _ _ (kept_refl _ _ _) ?_
      clear hK K
      clear r1 s1
      refine wpF_step 6 rfl (by as_aux_lemma => kernel_rfl) (fun K hK => ?_)
      go_simp
      have hz5 : wa.heap.size ≤ w5.heap.size := hb5'.size
      have hlit := OwnB.litv w5 w5.heap.size [.int .u8 (nj : Int)] [UInt8.ofNat nj] 1 (by simp only [List.map_cons, List.map_nil]; rw [u8v_nat _ (by omega)]) rfl (Nat.le_refl _) (by omega)
      have hb7 : Below w5.heap.size w5 (w5.alloc (.cells [Value.int .u8 (nj : Int)].toArray 5)) := (Below.refl _ _).alloc (Nat.le_refl _) _
      refine hK _ _ (kept_of_below hb7 hz5) ?_
      clear hK K
      obtain ⟨w7, hw7⟩ : ∃ w7, w5.alloc (.cells [Value.int .u8 (nj : Int)].toArray 5) = w7 := ⟨_, rfl⟩
      rw [hw7] at hlit hb7
      rw [hw7]
      have hb7' : Below wa.heap.size wa w7 := hb5'.trans (hb7.mono hz5)
      have hz7 : wa.heap.size ≤ w7.heap.size := hb7'.size
      have hown8 := huw.out.below hb7'
      have hlit8 := hlit.reads.2.2.2
      refine wpK_src 7 rfl (by as_aux_lemma => kernel_rfl) rfl (.tmp 72) (.tmp 78) rfl B v (hb ++ ts) _ _ _ _ _ rfl rfl hown8 hlit8 (by omega) (by rw [List.length_append]; omega) (.inl hrow) hz7 fun v9 w9 hown9 hg9 => ?_
      have hb9 := hg9.below hown8 (by omega)
      have hz9 := hg9.grown.size
      have hv9 := moved_row hg9 (.inl hrow) hz7
      have hbx9 := ((hbx.out.below (hbw.out.mono hzr)).below ((hb7'.mono hza).trans hb9))
      refine wpK_src 10 rfl (by as_aux_lemma => kernel_rfl) rfl (.tmp 79) (.tmp 81) rfl B v9 _ _ _ _ _ _ rfl rfl hown9 hbx9 (by omega) (by simp; omega) hv9 (by omega) fun v10 w10 hown10 hg10 => ?_
      have hb10 := hg10.below hown9 (by omega)
      have hBxe := hBw.out.trans ((hb7'.mono hza).trans (hb9.trans hb10))
      have howne : OwnB w10 B v10 (hb ++ (ts ++ (UInt8.ofNat nj :: xs))) := by simpa using hown10
      refine wpF_step 11 rfl (by as_aux_lemma => kernel_rfl) (fun K hK => ?_)
      go_simp
      refine hK _ _ (kept_refl _ _ _) ?_
      clear hK K
      refine wpF_done (by as_aux_lemma => kernel_rfl) ?_ 0
      clear hg9 hg10 hown8 hown9 hown10 hlit8 hlit hb7 hw7 hb7' hb9 hb10 hbx9 hb5 hb5' hbd hv9
      replace hBxe := hide hBxe
      replace howne := hide howne
      go_wp2_with fail
      exact ⟨⟨_, j + 1, ts ++ (UInt8.ofNat nj :: xs), rfl, by omega, by go_num, hts2.out, howne.out, hBxe.out⟩, by simp [intOf]; omega⟩
    · have hji : ¬ (j : Int) < (n : Int) := by omega
      obtain rfl : j = n := by omega
      have hpr := hpB.out.below hbr
      have hgr2 := blk_cell hgr
      have hen : ts = extB (pes es) proto := by
        rw [← hts, List.drop_of_length_le (by rw [hpl.out]; exact Nat.le_refl _)]
        simp [extB]
      have hpml : (hb ++ ts).length + m ≤ 1099511627776 := by rw [List.length_append]; omega
      replace hts := hide hts
      replace hxr := hide hxr
      replace hgr := hide hgr
      replace hu := hide hu
      replace hbr := hide hbr
      replace hpr := hide hpr
      replace hen := hide hen
      go_wp2_with (at_builtin; refine wpl_src_bv rfl (.tmp 84) (.tmp 85) rfl B _ _ ps P m d B rfl rfl hu.out hpr.out hzr hpml ?_)
      intro v11 w11 hown11 hg11
      have hBx11 := hbr.out.trans (hg11.below hu.out hzr)
      have hfin : (hb ++ ts) ++ ps = allB6 cls lab hop shi slo dhi dlo proto (pes es) ps := by
        unfold allB6
        rw [hen.out, hT1.out, hnx.out, ← hhb.out, show beB N 4 = beB (1610612736 + cls * 1048576 + lab) 4 by rw [hN.out], hd_eq cls lab hop nx T shi slo dhi dlo b1 b2]
        simp
      rw [← List.append_assoc, hfin] at hown11
      clear hg11
      replace hown11 := hide hown11
      replace hBx11 := hide hBx11
      go_wp2_with fail
      go_ret2
      exact ⟨_, rfl, hown11.out.weaken (by have := hlt3; omega), hB3.out.trans (hBx11.out.mono (by omega))⟩
end Six
end Go.Proofs.Ytdmgbngdpjcliaa
