/- addr: Parse: the address that a text is. Condition: the cell of bytealg.MaxLen, a text of at most 80 bytes. -/
import Derived.Test.YtbcicbiphgeghaaDoorQConfParses7
import Derived.Test.YtbcicbiphgeghaaDoorQConfParses2
import Derived.Test.YtbcicbiphgeghaaDoorQConfParses3
namespace Go.Proofs.YtbcicbiphgeghaaDoor
open Go.RowKit Go.ChangeShapes Go.WideShapes Go.ChangeAt Go.Deep
namespace Addr05
def Adr.arr (a : Adr) : Array Value := #[.bool a.v6, .int .u64 (a.hi : Int), .int .u64 (a.lo : Int)]
def adrP : Option Adr → Array Value
  | none => #[.bool false, .int .u64 0, .int .u64 0]
  | some a => a.arr
def errP (r : Option Adr) : Int := if r.isSome then 0 else 18
def pickT (s : List UInt8) : Option Adr → Option Adr
  | none => none
  | some a => if textA a = s then some a else none
theorem parseF_pick (s : List UInt8) (h : ¬ 39 < s.length) : parseF s = pickT s (rawF s) := by
  unfold parseF
  rw [if_neg h]
  cases rawF s <;> rfl
/-- What lies in the variable behind both readings. -/
def RawAt (S g : Nat) (r : Option Adr) (w wx : World) : Prop := ∃ a : Adr, wx.heap[g]? = some (.cells a.arr 26 (0, 0)) ∧ (∀ b, r = some b → b = a) ∧ wx.heap[S]? = some (.cells #[.bool false, .int .u64 0, .int .u64 0] 26 (0, 0)) ∧ Below S w wx ∧ g < wx.heap.size
theorem six_arr (s : List UInt8) : ∃ a : Adr, adrO (sixF s) = a.arr ∧ ∀ p, sixF s = some p → a = ⟨true, p.1, p.2⟩ := by
  cases h : sixF s with
  | none => exact ⟨⟨false, 0, 0⟩, rfl, fun p e => by cases e⟩
  | some p => exact ⟨⟨true, p.1, p.2⟩, rfl, fun q e => by cases e; rfl⟩
set_option maxRecDepth 20000 in
set_option maxHeartbeats 8000000 in
theorem Parse_any (s : List UInt8) (hs : s.length ≤ 65536) (w : World) (hm : MaxAt w) :
    Calls Tryd.prog 81 #[.string (str s)] w fun e w' => e = .returned (.tuple #[.agg (adrP (parseF s)), .int .i64 (errP (parseF s))]) ∧ Below w.heap.size w w' := by
  obtain ⟨w1, hw1⟩ : ∃ w1, w.alloc (.cells #[.bool false, .int .u64 0, .int .u64 0] 26) = w1 := ⟨_, rfl⟩
  have hB : Below w.heap.size w w1 := hw1 ▸ (Below.refl _ _).alloc (Nat.le_refl _) _
  have hg : w1.heap[w.heap.size]? = some (.cells #[.bool false, .int .u64 0, .int .u64 0] 26 (0, 0)) := hw1 ▸ blk_new _ _ _
  have hzw : w.heap.size < w1.heap.size := by rw [← hw1]; simp
  have hz : (str s).size = s.length := size_str s
  have hm1 := hm.below hB
  by_cases h39 : 39 < s.length
  · have hR : parseF s = none := by unfold parseF; rw [if_pos h39]
    rw [hR]
    have t1 : decide ((39 : Int) < (s.length : Int)) = true := by rw [decide_eq_true_eq]; omega
    replace hR := hide hR
    replace h39 := hide h39
    replace hB := hide hB
    replace hg := hide hg
    replace hm1 := hide hm1
    replace hm := hide hm
    go_enter Tryd.func81, Tryd.ntmps81
    go_upto_region 2 with fail
    clear hw1
    apply wp_region_lit
    iterate 1 (refine wpList_plain rfl fun K hK => ?_; go_simp; refine hK _ _ ?_; clear hK K)
    refine wpl_st rfl 26 (.tmp 2) (.tmp 9) rfl (w.heap.size) 0 rfl (#[.bool false, .int .u64 0, .int .u64 0]) rfl hg.out (by simp) (by kernel_rfl) (adr_one _ _ _) fun w9 hg9 g9 => ?_
    rw [putA_whole _ _ (by rfl)] at hg9
    have hb9 : Below (w.heap.size) w w9 := (hB.out).trans (below_grown g9 (by have := (hB.out).size; omega) (Nat.le_refl _))
    have hld : (loadVar 26 ⟨w.heap.size, 0, none⟩).run Tryd.prog w9 = .ok (.agg (#[.bool false, .int .u64 0, .int .u64 0])) w9 := by
      simpa using run_loadVar_mid w9 (w.heap.size) 0 26 (#[.bool false, .int .u64 0, .int .u64 0]).toList _ (blk_range hg9) Tryd.underlying26 rfl (by kernel_rfl)
    clear hg9 g9
    replace hld := hide hld
    replace hb9 := hide hb9
    iterate 1 (refine wpList_plain rfl fun K hK => ?_; go_simp; refine hK _ _ ?_; clear hK K)
    refine wpList_nil ?_
    go_simp
    go_wp2_with fail
    exact bodyPost_ret (v := .tuple #[.agg #[.bool false, .int .u64 0, .int .u64 0], .int .i64 18]) (by simp [results, Tryd.results81, asAddr, hld.out, Result.andThen]) rfl ⟨rfl, hb9.out⟩
  have t1 : decide ((39 : Int) < (s.length : Int)) = false := by rw [decide_eq_false_iff_not]; omega
  obtain ⟨RW, hRW⟩ : ∃ r, rawF s = r := ⟨_, rfl⟩
  have hPF := parseF_pick s h39
  rw [hRW] at hPF
  have hrok : ∀ a, RW = some a → a.ok := fun a h => (raw_ok s a (hRW.trans h)).1
  have hRW2 := hRW
  unfold rawF at hRW2
  obtain ⟨PF, hPF'⟩ : ∃ x, parseF s = x := ⟨_, rfl⟩
  rw [hPF'] at hPF
  rw [hPF']
  have hs : s.length ≤ 80 := by omega
  have hfour := four_any s hs w1 hm1
  obtain ⟨c, hc⟩ : ∃ c, decide (0 ≤ Lib.indexByte s 58) = c := ⟨_, rfl⟩
  have hcon : ∀ w : World, Calls Tryd.prog 116 #[.string (str s), .string ⟨#[58]⟩] w fun e w' => e = .returned (.bool c) ∧ w' = w := by
    intro w
    rw [← hc]
    exact Tryd.strings_Contains_one (str s) 58 w
  obtain ⟨F1, hF1⟩ : ∃ x, (fourF s).1 = x := ⟨_, rfl⟩
  obtain ⟨F2, hF2⟩ : ∃ x, (fourF s).2 = x := ⟨_, rfl⟩
  rw [hF1, hF2] at hfour hRW2
  have hsix := six_any s hs
  obtain ⟨X, hX1, hX2⟩ := six_arr s
  obtain ⟨S6, hS6⟩ : ∃ x, sixF s = x := ⟨_, rfl⟩
  rw [hS6] at hsix hX1 hX2 hRW2
  rw [hX1] at hsix
  have e0 : c = true → RW = S6.map fun p => ⟨true, p.1, p.2⟩ := fun h => by rw [h] at hc; rw [← hRW2, if_pos (of_decide_eq_true hc)]
  have e1 : c = false → RW = if F2 = true then some ⟨false, 0, F1⟩ else none := fun h => by rw [h] at hc; rw [← hRW2, if_neg (of_decide_eq_false hc)]
  obtain ⟨x6, hx6⟩ : ∃ x, S6.isSome = x := ⟨_, rfl⟩
  rw [hx6] at hsix
  clear hRW2 hc hX1 hPF' hF1 hF2 hS6 hRW
  replace hB := hide hB
  replace hg := hide hg
  replace hm1 := hide hm1
  replace hm := hide hm
  replace hPF := hide hPF
  replace hrok := hide hrok
  replace hfour := hide hfour
  replace hcon := hide hcon
  replace hsix := hide hsix
  replace hX2 := hide hX2
  replace e0 := hide e0
  replace e1 := hide e1
  replace hx6 := hide hx6
  replace h39 := hide h39
  go_enter Tryd.func81, Tryd.ntmps81
  go_upto_region 3 with fail
  clear hw1
  apply wp_region_lit
  iterate 1 (refine wpList_plain rfl fun K hK => ?_; go_simp; refine hK _ _ ?_; clear hK K)
  refine wpList_plain rfl fun K hK => ?_
  go_simp
  refine (hfour.out).mono ?_
  rintro e w2 ⟨rfl, hb2⟩
  have hg2 := blk_below hb2 hzw hg.out
  have hB2 := hB.out.trans (hb2.mono hB.out.size)
  have hz2 := hb2.size
  have hm2 := hm1.out.below hb2
  clear hb2 hfour hg hB hm1
  replace hg2 := hide hg2
  replace hB2 := hide hB2
  replace hm2 := hide hm2
  go_simp
  refine hK _ _ ?_
  clear hK K
  iterate 3 (refine wpList_plain rfl fun K hK => ?_; go_simp; refine hK _ _ ?_; clear hK K)
  refine wpl_new rfl rfl 26 _ (alloc_adr _ rfl) 4 rfl (.tmp 13) rfl _ (fun _ => rfl) (fun _ => rfl) rfl (by kernel_rfl) (adr_one false 0 (F1 : Int)) ?_
  intro w3 hg3 hb3 hz3
  have hr3 := blk_below hb3 (by omega) hg2.out
  have hB3 := hB2.out.trans (hb3.mono hB2.out.size)
  have hm3 := hm2.out.below hb3
  clear hb3 hg2 hB2 hm2
  replace hg3 := hide hg3
  replace hr3 := hide hr3
  replace hB3 := hide hB3
  replace hm3 := hide hm3
  iterate 1 (refine wpList_plain rfl fun K hK => ?_; go_simp; refine hK _ _ ?_; clear hK K)
  refine wpList_nil ?_
  go_simp
  obtain ⟨gg, hgg⟩ : ∃ x, w2.heap.size = x := ⟨_, rfl⟩
  rw [hgg] at hg3 hz3 hz2 ⊢
  obtain ⟨ok, hok⟩ : ∃ b, RW.isSome = b := ⟨_, rfl⟩
  replace hgg := hide hgg
  replace hok := hide hok
  go_wp2_with fail
  refine (hcon.out w3).mono ?_
  rintro e w4 ⟨rfl, rfl⟩
  go_upto_if 16 with fail
  go_cut [5] (fun bv wx => bv = .bool ok ∧ RawAt w.heap.size gg RW w wx)
  case first =>
    cases c
    · have e2 := e1.out rfl
      replace e2 := hide e2
      go_wp2_with fail
      go_meet
      refine ⟨?_, ⟨⟨false, 0, F1⟩, hg3.out, fun b h => ?_, hr3.out, hB3.out, by omega⟩⟩
      · rw [← hok.out, e2.out]
        cases F2 <;> rfl
      · rw [e2.out] at h
        split at h
        · cases h; rfl
        · cases h
    · have e2 := e0.out rfl
      replace e2 := hide e2
      go_upto_region 5 with fail
      apply wp_region_lit
      iterate 1 (refine wpList_plain rfl fun K hK => ?_; go_simp; refine hK _ _ ?_; clear hK K)
      refine wpList_plain rfl fun K hK => ?_
      go_simp
      refine (hsix.out w4 hm3.out).mono ?_
      rintro e w5 ⟨rfl, hb5⟩
      have hg5 := blk_below hb5 (by omega) hg3.out
      have hr5 := blk_below hb5 (by omega) hr3.out
      have hB5 := hB3.out.trans (hb5.mono hB3.out.size)
      have hz5 := hb5.size
      clear hb5 hsix hg3 hr3 hB3
      replace hg5 := hide hg5
      replace hr5 := hide hr5
      replace hB5 := hide hB5
      go_simp
      refine hK _ _ ?_
      clear hK K
      iterate 3 (refine wpList_plain rfl fun K hK => ?_; go_simp; refine hK _ _ ?_; clear hK K)
      refine wpl_st rfl 26 (.tmp 4) (.tmp 20) rfl gg 0 rfl X.arr rfl hg5.out (by simp [Adr.arr]) (by kernel_rfl) (adr_one _ _ _) fun w6 hg6 g6 => ?_
      rw [putA_whole _ _ (by rfl)] at hg6
      have hr6 := grown_other g6 (by omega) (by omega) hr5.out
      have hB6 : Below w.heap.size w w6 := hB5.out.trans (below_grown g6 (by omega) (by omega))
      have hz6 := g6.size
      clear g6 hg5 hr5 hB5
      replace hg6 := hide hg6
      replace hr6 := hide hr6
      replace hB6 := hide hB6
      iterate 1 (refine wpList_plain rfl fun K hK => ?_; go_simp; refine hK _ _ ?_; clear hK K)
      refine wpList_nil ?_
      go_wp2_with fail
      go_meet
      refine ⟨?_, ⟨X, hg6.out, fun b h => ?_, hr6.out, hB6.out, by omega⟩⟩
      · rw [← hok.out, ← hx6.out, e2.out]
        cases S6 <;> rfl
      · rw [e2.out] at h
        obtain ⟨p, hp, rfl⟩ := Option.map_eq_some_iff.1 h
        exact (hX2.out p hp).symm
  case rest =>
    obtain ⟨rfl, a, hga, hab, hr, hBc, hzc⟩ := hcut
    clear hg3 hr3 hB3 hsix hX2 e0 e1 hx6 hcon hm3
    replace hga := hide hga
    replace hr := hide hr
    replace hBc := hide hBc
    have hgl : w.heap.size < gg := by omega
    cases RW with
    | none =>
      obtain rfl : false = ok := hok.out
      obtain rfl : PF = none := hPF.out
      clear hok hPF hrok hab
      go_upto_region 7 with fail
      apply wp_region_lit
      iterate 1 (refine wpList_plain rfl fun K hK => ?_; go_simp; refine hK _ _ ?_; clear hK K)
      refine wpl_st rfl 26 (.tmp 2) (.tmp 30) rfl (w.heap.size) 0 rfl (#[.bool false, .int .u64 0, .int .u64 0]) rfl hr.out (by simp) (by kernel_rfl) (adr_one _ _ _) fun w9 hg9 g9 => ?_
      rw [putA_whole _ _ (by rfl)] at hg9
      have hb9 : Below (w.heap.size) w w9 := (hBc.out).trans (below_grown g9 (by have := (hBc.out).size; omega) (Nat.le_refl _))
      have hld : (loadVar 26 ⟨w.heap.size, 0, none⟩).run Tryd.prog w9 = .ok (.agg (#[.bool false, .int .u64 0, .int .u64 0])) w9 := by
        simpa using run_loadVar_mid w9 (w.heap.size) 0 26 (#[.bool false, .int .u64 0, .int .u64 0]).toList _ (blk_range hg9) Tryd.underlying26 rfl (by kernel_rfl)
      clear hg9 g9
      replace hld := hide hld
      replace hb9 := hide hb9
      iterate 1 (refine wpList_plain rfl fun K hK => ?_; go_simp; refine hK _ _ ?_; clear hK K)
      refine wpList_nil ?_
      go_simp
      go_wp2_with fail
      exact bodyPost_ret (v := .tuple #[.agg #[.bool false, .int .u64 0, .int .u64 0], .int .i64 18]) (by simp [results, Tryd.results81, asAddr, hld.out, Result.andThen]) rfl ⟨rfl, hb9.out⟩
    | some b =>
      obtain rfl : true = ok := hok.out
      obtain rfl := hab b rfl
      have hok2 := hrok.out b rfl
      have hPF2 : PF = if textA b = s then some b else none := hPF.out
      obtain ⟨v6, hi, lo⟩ := b
      have hh : hi < 18446744073709551616 := hok2.1
      have hl : lo < 18446744073709551616 := hok2.2
      clear hok hPF hrok hab hok2
      unfold textA at hPF2
      unfold Adr.arr at hga
      have hcg := blk_cell hga.out
      have htx := text_any v6 hi lo hh hl wc
      dsimp only at hPF2
      obtain ⟨T, hT⟩ : ∃ x, textL v6 hi lo = x := ⟨_, rfl⟩
      rw [hT] at hPF2 htx
      replace hPF2 := hide hPF2
      replace htx := hide htx
      replace hT := hide hT
      by_cases hTs : T = s
      · obtain rfl : PF = some ⟨v6, hi, lo⟩ := by rw [hPF2.out, if_pos hTs]
        rw [hTs] at htx
        clear hPF2 hT
        replace hTs := hide hTs
        go_wp2_with fail
        refine htx.out.mono ?_
        rintro e w5 ⟨rfl, hb5⟩
        have hga5 := blk_below hb5 (by omega) hga.out
        have hr5 := blk_below hb5 (by omega) hr.out
        have hB5 := hBc.out.trans (hb5.mono hBc.out.size)
        have hz5 := hb5.size
        clear hb5 htx hga hr hBc hcg
        replace hga5 := hide hga5
        replace hr5 := hide hr5
        replace hB5 := hide hB5
        go_upto_region 8 with fail
        apply wp_region_lit
        refine wpl_ld rfl 26 (.tmp 4) rfl gg rfl _ _ hga5.out Tryd.underlying26 rfl (by kernel_rfl) ?_
        refine wpl_st rfl 26 (.tmp 2) (.tmp 31) rfl (w.heap.size) 0 rfl (#[.bool v6, .int .u64 (hi : Int), .int .u64 (lo : Int)]) rfl hr5.out (by simp) (by kernel_rfl) (adr_one _ _ _) fun w9 hg9 g9 => ?_
        rw [putA_whole _ _ (by rfl)] at hg9
        have hb9 : Below (w.heap.size) w w9 := (hB5.out).trans (below_grown g9 (by have := (hB5.out).size; omega) (Nat.le_refl _))
        have hld : (loadVar 26 ⟨w.heap.size, 0, none⟩).run Tryd.prog w9 = .ok (.agg (#[.bool v6, .int .u64 (hi : Int), .int .u64 (lo : Int)])) w9 := by
          simpa using run_loadVar_mid w9 (w.heap.size) 0 26 (#[.bool v6, .int .u64 (hi : Int), .int .u64 (lo : Int)]).toList _ (blk_range hg9) Tryd.underlying26 rfl (by kernel_rfl)
        clear hg9 g9
        replace hld := hide hld
        replace hb9 := hide hb9
        iterate 1 (refine wpList_plain rfl fun K hK => ?_; go_simp; refine hK _ _ ?_; clear hK K)
        refine wpList_nil ?_
        go_simp
        go_wp2_with fail
        exact bodyPost_ret (v := .tuple #[.agg #[.bool v6, .int .u64 (hi : Int), .int .u64 (lo : Int)], .int .i64 0]) (by simp [results, Tryd.results81, asAddr, hld.out, Result.andThen]) rfl ⟨rfl, hb9.out⟩
      · obtain rfl : PF = none := by rw [hPF2.out, if_neg hTs]
        have tq : ((str T).toList == (str s).toList) = false := by rw [str_toList, str_toList]; simpa using hTs
        clear hPF2 hT
        replace hTs := hide hTs
        go_wp2_with fail
        refine htx.out.mono ?_
        rintro e w5 ⟨rfl, hb5⟩
        have hga5 := blk_below hb5 (by omega) hga.out
        have hr5 := blk_below hb5 (by omega) hr.out
        have hB5 := hBc.out.trans (hb5.mono hBc.out.size)
        have hz5 := hb5.size
        clear hb5 htx hga hr hBc hcg
        replace hga5 := hide hga5
        replace hr5 := hide hr5
        replace hB5 := hide hB5
        go_upto_region 7 with fail
        apply wp_region_lit
        iterate 1 (refine wpList_plain rfl fun K hK => ?_; go_simp; refine hK _ _ ?_; clear hK K)
        refine wpl_st rfl 26 (.tmp 2) (.tmp 30) rfl (w.heap.size) 0 rfl (#[.bool false, .int .u64 0, .int .u64 0]) rfl hr5.out (by simp) (by kernel_rfl) (adr_one _ _ _) fun w9 hg9 g9 => ?_
        rw [putA_whole _ _ (by rfl)] at hg9
        have hb9 : Below (w.heap.size) w w9 := (hB5.out).trans (below_grown g9 (by have := (hB5.out).size; omega) (Nat.le_refl _))
        have hld : (loadVar 26 ⟨w.heap.size, 0, none⟩).run Tryd.prog w9 = .ok (.agg (#[.bool false, .int .u64 0, .int .u64 0])) w9 := by
          simpa using run_loadVar_mid w9 (w.heap.size) 0 26 (#[.bool false, .int .u64 0, .int .u64 0]).toList _ (blk_range hg9) Tryd.underlying26 rfl (by kernel_rfl)
        clear hg9 g9
        replace hld := hide hld
        replace hb9 := hide hb9
        iterate 1 (refine wpList_plain rfl fun K hK => ?_; go_simp; refine hK _ _ ?_; clear hK K)
        refine wpList_nil ?_
        go_simp
        go_wp2_with fail
        exact bodyPost_ret (v := .tuple #[.agg #[.bool false, .int .u64 0, .int .u64 0], .int .i64 18]) (by simp [results, Tryd.results81, asAddr, hld.out, Result.andThen]) rfl ⟨rfl, hb9.out⟩
end Addr05
end Go.Proofs.YtbcicbiphgeghaaDoor
/- addr: which addresses may be, as the code and the law say; the law's awake. Condition: the cell of bytealg.MaxLen. -/
namespace Go.Proofs.YtbcicbiphgeghaaDoor
open Go.RowKit Go.ChangeShapes Go.WideShapes Go.ChangeAt Go.Deep
namespace Addr05
def rightB (v6 : Bool) (hi lo : Nat) : Bool := v6 || (decide (hi = 0) && decide (lo < 4294967296))
theorem rightB_iff (a : Adr) : rightB a.v6 a.hi a.lo = true ↔ a.right := by
  unfold rightB Adr.right
  simp
set_option maxRecDepth 20000 in
theorem Right_any (v6 : Bool) (hi lo : Nat) (w : World) :
    Calls Tryd.prog 55 #[.agg #[.bool v6, .int .u64 (hi : Int), .int .u64 (lo : Int)]] w fun e w' => e = .returned (.bool (rightB v6 hi lo)) ∧ Below w.heap.size w w' := by
  have t1 : ((hi : Int) == 0) = decide (hi = 0) := by rw [Bool.eq_iff_iff]; simp
  have t2 : decide ((lo : Int) < 4294967296) = decide (lo < 4294967296) := by rw [Bool.eq_iff_iff]; simp; omega
  unfold rightB
  obtain ⟨b1, hb1⟩ : ∃ b, decide (hi = 0) = b := ⟨_, rfl⟩
  obtain ⟨b2, hb2⟩ : ∃ b, decide (lo < 4294967296) = b := ⟨_, rfl⟩
  rw [hb1] at t1 ⊢
  rw [hb2] at t2 ⊢
  clear hb1 hb2
  cases v6
  · cases b1
    · go_enter Tryd.func55, Tryd.ntmps55
      go_wp2_with fail
      go_ret
      exact ⟨rfl, (Below.refl _ _).alloc (Nat.le_refl _) _⟩
    · go_enter Tryd.func55, Tryd.ntmps55
      go_wp2_with fail
      go_ret
      exact ⟨rfl, (Below.refl _ _).alloc (Nat.le_refl _) _⟩
  · go_enter Tryd.func55, Tryd.ntmps55
    go_wp2_with fail
    go_ret
    exact ⟨rfl, (Below.refl _ _).alloc (Nat.le_refl _) _⟩
theorem parse1 (w : World) (hm : MaxAt w) : Calls Tryd.prog 81 #[.string ⟨#[58, 58, 49]⟩] w fun e w' => e = .returned (.tuple #[.agg #[.bool true, .int .u64 0, .int .u64 1], .int .i64 0]) ∧ Below w.heap.size w w' := by
  have h := Parse_any [58, 58, 49] (by decide) w hm
  rw [show parseF [58, 58, 49] = some ⟨true, 0, 1⟩ by kernel_rfl] at h
  exact h
theorem parse2 (w : World) (hm : MaxAt w) : Calls Tryd.prog 81 #[.string ⟨#[48, 58, 48, 58, 58, 49]⟩] w fun e w' => e = .returned (.tuple #[.agg #[.bool false, .int .u64 0, .int .u64 0], .int .i64 18]) ∧ Below w.heap.size w w' := by
  have h := Parse_any [48, 58, 48, 58, 58, 49] (by decide) w hm
  rw [show parseF [48, 58, 48, 58, 58, 49] = none by kernel_rfl] at h
  exact h
end Addr05
end Go.Proofs.YtbcicbiphgeghaaDoor
/- The walk of AddrParses: it answers true. Condition: the cell of bytealg.MaxLen. -/
namespace Go.Proofs.YtbcicbiphgeghaaDoor
open Go.RowKit Go.ChangeShapes Go.WideShapes Go.ChangeAt Go.Deep
namespace Addr05
theorem str_extract (s : List UInt8) (a b : Nat) : (str s).extract a b = str ((s.take b).drop a) := by
  apply ByteArray.ext
  apply Array.ext'
  simp [str, List.drop_take]
theorem u64_nat {i : Int} (h : (Lit.int .u64 i).wf = true) : ∃ n : Nat, i = (n : Int) ∧ n < 18446744073709551616 := by
  have h2 := u64_wf h
  exact ⟨i.toNat, by omega, by omega⟩
theorem str_data (s : ByteArray) : str s.data.toList = s := by
  apply ByteArray.ext
  rfl
end Addr05
end Go.Proofs.YtbcicbiphgeghaaDoor
/- lex: words. Conditions: texts of at most 2^40 bytes. -/
namespace Go.Proofs.YtbcicbiphgeghaaDoor
open Go.RowKit Go.ChangeShapes Go.WideShapes Go.ChangeAt Go.Deep
namespace Conf18
open Addr05 (str_get str_extract)
def blankAt (s : List UInt8) (i : Nat) : Bool := match s[i]? with | none => true | some c => decide (c.toNat = 32 ∨ c.toNat = 9)
/-- A step of words: what is out, and where a word began. -/
def wStep (s : List UInt8) (i : Nat) (st : List (List UInt8) × Option Nat) : List (List UInt8) × Option Nat :=
  if blankAt s i = true then (match st.2 with | some f => (st.1 ++ [(s.take i).drop f], none) | none => st) else (match st.2 with | none => (st.1, some i) | some _ => st)
def wAt (s : List UInt8) : Nat → List (List UInt8) × Option Nat
  | 0 => ([], none)
  | i + 1 => wStep s i (wAt s i)
def wordsF (s : List UInt8) : List (List UInt8) := (wAt s (s.length + 1)).1
theorem wAt_lt (s : List UInt8) : ∀ i f, (wAt s i).2 = some f → f < i
  | 0, f, h => by cases h
  | i + 1, f, h => by
    have ih := wAt_lt s i
    rw [wAt] at h
    unfold wStep at h
    split at h
    · split at h
      · cases h
      · rename_i h2
        have := ih f h
        omega
    · split at h
      · cases h; omega
      · rename_i h2
        have := ih f h
        omega
theorem wAt_len (s : List UInt8) : ∀ i, (wAt s i).1.length ≤ i
  | 0 => Nat.le_refl _
  | i + 1 => by
    have ih := wAt_len s i
    rw [wAt]
    unfold wStep
    split
    · split
      · rw [List.length_append, List.length_singleton]; omega
      · omega
    · split <;> first | omega | (dsimp only; omega)
theorem info_str : (Tryd.prog.info? 9).map (fun i => (i.zero, i.size, i.bytes)) = some (some (.string ⟨#[]⟩), 1, 16) := by kernel_rfl
abbrev OwnS (w : World) (base : Nat) (v : Value) (xs : List (List UInt8)) : Prop := OwnR 9 (fun s => Value.string (str s)) w base v xs
def frV (o : Option Nat) : Int := match o with | none => -1 | some f => (f : Int)
set_option maxRecDepth 20000 in
set_option maxHeartbeats 8000000 in
theorem words_any (s : List UInt8) (hs : s.length ≤ 1099511627775) (w : World) :
    Calls Tryd.prog 88 #[.string (str s)] w fun e w' => ∃ v, e = .returned v ∧ OwnS w' w.heap.size v (wordsF s) ∧ Below w.heap.size w w' := by
  have hsz : (str s).size = s.length := List.size_toArray
  have wl : IntKind.i64.wrap ((s.length : Int) + 1) = ((s.length + 1 : Nat) : Int) := by rw [wraps62 _ (by omega) (by omega)]; omega
  obtain ⟨L1, hL1⟩ : ∃ L, s.length + 1 = L := ⟨_, rfl⟩
  rw [hL1] at wl
  have hLb : L1 ≤ 1099511627776 := by omega
  replace hL1 := hide hL1
  go_enter Tryd.func88, Tryd.ntmps88
  go_wp2_with fail
  go_loopw [3, 4, 5, 6, 10] (fun v fv _ _ iv wr => ∃ i : Nat, i ≤ L1 ∧ iv = .int .i64 (i : Int) ∧ fv = .int .i64 (frV (wAt s i).2) ∧ OwnS wr w.heap.size v (wAt s i).1 ∧ Below w.heap.size w wr) (fun _ _ _ _ iv _ => L1 - (intOf iv).toNat)
  case atStart => exact ⟨0, by omega, rfl, rfl, OwnR.nil _ _, Below.refl _ _⟩
  case round =>
    obtain ⟨i, hi, rfl, rfl, ho, hb⟩ := hrel
    by_cases hlt : i < L1
    · have i1 : (i : Int) < (L1 : Int) := by omega
      have wi1 : IntKind.i64.wrap ((i : Int) + 1) = ((i + 1 : Nat) : Int) := by rw [wraps62 _ (by omega) (by omega)]; omega
      have hil0 : i ≤ s.length := by have := hL1.out; omega
      have hst : wAt s (i + 1) = wStep s i (wAt s i) := rfl
      have hfl := wAt_lt s i
      have hll := wAt_len s i
      obtain ⟨⟨out, fr⟩, hw⟩ : ∃ x, wAt s i = x := ⟨_, rfl⟩
      rw [hw] at hst hfl hll ho ⊢
      dsimp only at hfl hll ho ⊢
      obtain ⟨A3, c3, hv, -, -, -⟩ := own_isv ho
      subst hv
      clear hw
      obtain ⟨bl, hbl⟩ : ∃ b, blankAt s i = b := ⟨_, rfl⟩
      unfold wStep at hst
      rw [hbl] at hst
      have hbF : bl = true ↔ (i = s.length ∨ ∃ c, s[i]? = some c ∧ (c.toNat = 32 ∨ c.toNat = 9)) := by
        rw [← hbl]
        unfold blankAt
        cases hc : s[i]? with
        | none =>
          have : s.length ≤ i := List.getElem?_eq_none_iff.1 hc
          have := hL1.out
          simp
          omega
        | some c =>
          have : i < s.length := (List.getElem?_eq_some_iff.1 hc).1
          simp
          omega
      replace hst := hide hst
      replace hfl := hide hfl
      replace hll := hide hll
      replace ho := hide ho
      replace hb := hide hb
      replace hbl := hide hbl
      replace hbF := hide hbF
      go_upto_region 6 with fail
      go_cut [6] from 13 to 28 (fun v wx => v = .bool bl ∧ wr = wx)
      case first =>
        by_cases hie : i = s.length
        · have j1 : ((i : Int) == (s.length : Int)) = true := by rw [hie]; simp
          obtain rfl : bl = true := hbF.out.2 (.inl hie)
          have j1' : (i : Int) = (s.length : Int) := by rw [hie]
          replace hie := hide hie
          have j9 := j1'
          clear j1'
          clear j9
          go_wp2_with fail
          go_meet
          exact ⟨rfl, rfl⟩
        · have j1 : ((i : Int) == (s.length : Int)) = false := by rw [beq_eq_false_iff_ne]; omega
          have j1' : ¬ (i : Int) = (s.length : Int) := by omega
          have hil2 : i < s.length := by omega
          have hil3 : (i : Int) < (s.length : Int) := by omega
          obtain ⟨c, hc⟩ : ∃ c, s[i]? = some c := ⟨_, List.getElem?_eq_getElem hil2⟩
          have hks2 : i < (str s).size := by omega
          have ek := str_get s i c hc hks2
          have hbF2 := hbF.out
          obtain ⟨v, hv⟩ : ∃ v, c.toNat = v := ⟨_, rfl⟩
          have ek2 : ((c.toNat : Nat) : Int) = (v : Int) := by rw [hv]
          have hbc : bl = true ↔ (v = 32 ∨ v = 9) := by
            rw [hbF2]
            constructor
            · rintro (h | ⟨c', h1, h2⟩)
              · exact absurd h hie
              · rw [hc] at h1
                cases h1
                rw [hv] at h2
                exact h2
            · intro h
              exact .inr ⟨c, hc, by rw [hv]; exact h⟩
          clear hbF2 hbF
          by_cases h32 : v = 32
          · obtain rfl : bl = true := hbc.2 (.inl h32)
            have k1 : ((v : Int) == 32) = true := by rw [h32]; rfl
            replace h32 := hide h32
            replace hbc := hide hbc
            replace hc := hide hc
            replace hv := hide hv
            replace hie := hide hie
            go_wp2_with fail
            go_meet
            exact ⟨by first | rfl | simp [h32.out], rfl⟩
          · have k1 : ((v : Int) == 32) = false := by rw [beq_eq_false_iff_ne]; omega
            have k1' : ¬ (v : Int) = 32 := by omega
            by_cases h9 : v = 9
            · obtain rfl : bl = true := hbc.2 (.inr h9)
              have k2 : ((v : Int) == 9) = true := by rw [h9]; rfl
              replace h32 := hide h32
              replace h9 := hide h9
              replace hbc := hide hbc
              replace hc := hide hc
              replace hv := hide hv
              replace hie := hide hie
              go_wp2_with fail
              go_meet
              exact ⟨by first | rfl | simp [h9.out], rfl⟩
            · obtain rfl : bl = false := by
                cases bl
                · rfl
                · exact absurd (hbc.1 rfl) (by omega)
              have k2 : ((v : Int) == 9) = false := by rw [beq_eq_false_iff_ne]; omega
              have k2' : ¬ (v : Int) = 9 := by omega
              replace h32 := hide h32
              replace h9 := hide h9
              replace hbc := hide hbc
              replace hc := hide hc
              replace hv := hide hv
              replace hie := hide hie
              go_wp2_with fail
              go_meet
              exact ⟨by first | rfl | simp [k1', k2'], rfl⟩
      case rest =>
      obtain ⟨rfl, rfl⟩ := hcut
      cases bl
      · cases fr with
        | none =>
          dsimp only [frV]
          have hst2 : wAt s (i + 1) = (out, some i) := by have h := hst.out; simpa using h
          replace hst2 := hide hst2
          go_wp2_with fail
          exact ⟨⟨i + 1, by omega, by first | rfl | go_num, by rw [hst2.out]; rfl, by rw [hst2.out]; exact ho.out, hb.out⟩, by simp only [intOf]; omega⟩
        | some f =>
          have i2 : ¬ (f : Int) < 0 := by omega
          dsimp only [frV]
          have hst2 : wAt s (i + 1) = (out, some f) := by have h := hst.out; simpa using h
          replace hst2 := hide hst2
          go_wp2_with fail
          exact ⟨⟨i + 1, by omega, by first | rfl | go_num, by rw [hst2.out]; rfl, by rw [hst2.out]; exact ho.out, hb.out⟩, by simp only [intOf]; omega⟩
      · cases fr with
        | none =>
          dsimp only [frV]
          have hst2 : wAt s (i + 1) = (out, none) := by have h := hst.out; simpa using h
          replace hst2 := hide hst2
          go_wp2_with fail
          exact ⟨⟨i + 1, by omega, by first | rfl | go_num, by rw [hst2.out]; rfl, by rw [hst2.out]; exact ho.out, hb.out⟩, by simp only [intOf]; omega⟩
        | some f =>
          have hfi := hfl.out f rfl
          have hil : i ≤ s.length := by have := hL1.out; omega
          have i2 : (0 : Int) ≤ (f : Int) := by omega
          have i3 : f ≤ i := by omega
          dsimp only [frV]
          have hst2 : wAt s (i + 1) = (out ++ [(s.take i).drop f], none) := by have h := hst.out; simpa using h
          replace hst2 := hide hst2
          have ex := str_extract s f i
          obtain ⟨wd, hwd⟩ : ∃ x, (s.take i).drop f = x := ⟨_, rfl⟩
          rw [hwd] at ex
          have hst3 := hst2.out
          rw [hwd] at hst3
          clear hst2
          have hol : out.length ≤ 1099511627775 := by have := hll.out; omega
          replace hst3 := hide hst3
          replace hwd := hide hwd
          go_upto_region 8 with fail
          apply wp_region_lit
          iterate 6 (refine wpList_plain rfl fun K hK => ?_; go_simp; refine hK _ _ ?_; clear hK K)
          refine wpl_lit_r (e := 9) (f := fun s => Value.string (str s)) Tryd.underlying140 info_str rfl (by omega) (fun _ => rfl) rfl (.tmp 35) (.tmp 40) rfl w.heap.size _ out [wd] 1 1 rfl rfl rfl rfl ho.out hb.out.size (by omega) fun v2 w2 h1 h2 => ?_
          have hb2 := hb.out.trans (below_of_grown h2.grown hb.out.size fun k hk => (World.ownsRow.lt ho.out k hk).1)
          clear h2 ho hb ex
          replace h1 := hide h1
          replace hb2 := hide hb2
          iterate 2 (refine wpList_plain rfl fun K hK => ?_; go_simp; refine hK _ _ ?_; clear hK K)
          refine wpList_nil ?_
          go_simp
          go_wp2_with fail
          exact ⟨⟨i + 1, by omega, by first | rfl | go_num, by rw [hst3.out]; rfl, by rw [hst3.out]; exact h1.out, hb2.out⟩, by simp only [intOf]; omega⟩
    · obtain rfl : i = L1 := by omega
      have hlt : ((i : Int) < (i : Int)) = False := by simp
      obtain ⟨⟨out, fr⟩, hw⟩ : ∃ x, wAt s i = x := ⟨_, rfl⟩
      have hwf : wordsF s = out := by unfold wordsF; rw [hL1.out, hw]
      rw [hw] at ho ⊢
      clear hw
      dsimp only at ho ⊢
      replace ho := hide ho
      replace hb := hide hb
      replace hwf := hide hwf
      go_wp2_with fail
      go_ret
      exact ⟨_, rfl, by rw [hwf.out]; exact ho.out, hb.out⟩
end Conf18
end Go.Proofs.YtbcicbiphgeghaaDoor
/- lex: Right; strings.Split and Cut of texts of at most 65536 bytes. Condition: the cell of bytealg.MaxLen. -/
namespace Go.Proofs.YtbcicbiphgeghaaDoor
open Go.RowKit Go.ChangeShapes Go.WideShapes Go.ChangeAt Go.Deep
namespace Conf18
open Addr05 (splitL strv MaxAt below_drews size_str)
theorem split_big (sep : UInt8) (s : List UInt8) (hs : s.length ≤ 65536) (w : World) (hm : MaxAt w) :
    Calls Tryd.prog 87 #[.string (str s), .string (str [sep])] w fun e w' => ∃ A c, e = .returned (.slice A (splitL sep s).length c) ∧ IsR strv w' w'.heap.size A (splitL sep s).length (splitL sep s) ∧ (splitL sep s).length ≤ c ∧ Below w.heap.size w w' := by
  obtain ⟨m, hm⟩ := hm
  refine (Tryd.strings_Split (str s) (str [sep]) m w (by rw [size_str]; omega) hm (by exact Nat.le_refl _)).mono ?_
  rintro e w' ⟨rfl, rfl⟩
  have hlen : (splitL sep s).length = Lib.countB (str s) (str [sep]) + 1 := by
    unfold splitL
    rw [List.length_map]
    exact Lib.splitB_all (str [sep]) (Nat.le_refl _) 0 _ (str s) rfl
  have hmap : (Lib.splitB (str [sep]) 0 (Lib.countB (str s) (str [sep])) (str s)).map Value.string = (splitL sep s).map strv := by
    unfold splitL
    rw [List.map_map]
    rfl
  rw [hmap, ← hlen]
  refine ⟨_, _, rfl, ?_, Nat.le_refl _, (Below.refl _ _).alloc (Nat.le_refl _) _⟩
  exact (IsV.lit w 9 ((splitL sep s).map strv) 0 (splitL sep s).length (by rw [List.length_map]; omega)).more (by simp)
theorem cut_big (sep s : List UInt8) (hs : s.length ≤ 65536) (w : World) (hm : MaxAt w) :
    Calls Tryd.prog 80 #[.string (str s), .string (str sep)] w fun e w' => e = .returned (.tuple #[.string (str (Lib.cut s sep).1), .string (str (Lib.cut s sep).2.1), .bool (Lib.cut s sep).2.2]) ∧ Below w.heap.size w w' := by
  obtain ⟨m, hm⟩ := hm
  refine (Tryd.strings_Cut (str s) (str sep) m w (by rw [size_str]; omega) hm).mono ?_
  rintro e w' ⟨rfl, n, rfl⟩
  exact ⟨rfl, below_drews _ _ n⟩
/-- May a byte stand in a text? -/
def rightC (v : Nat) : Bool := decide ((32 ≤ v ∧ v ≤ 126) ∨ v = 9 ∨ v = 10)
set_option maxRecDepth 20000 in
set_option maxHeartbeats 8000000 in
theorem lexRight_any (v : Nat) (w : World) : Calls Tryd.prog 35 #[.int .u8 (v : Int)] w fun e w' => e = .returned (.bool (rightC v)) ∧ w' = w := by
  obtain ⟨B, hB⟩ : ∃ b, rightC v = b := ⟨_, rfl⟩
  have hb : B = true ↔ ((32 ≤ v ∧ v ≤ 126) ∨ v = 9 ∨ v = 10) := by rw [← hB]; unfold rightC; exact decide_eq_true_iff
  rw [hB]
  clear hB
  by_cases h1 : 32 ≤ v
  · have i1 : (32 : Int) ≤ (v : Int) := by omega
    by_cases h2 : v ≤ 126
    · have i2 : (v : Int) ≤ 126 := by omega
      obtain rfl : B = true := hb.2 (.inl ⟨h1, h2⟩)
      clear hb
      go_enter Tryd.func35, Tryd.ntmps35
      go_wp2_with fail
      go_ret
      exact ⟨by first | rfl | simp [i1, i2], rfl⟩
    · have i2 : ¬ (v : Int) ≤ 126 := by omega
      have i3 : ¬ (v : Int) = 9 := by omega
      have i4 : ¬ (v : Int) = 10 := by omega
      obtain rfl : B = false := by
        cases B
        · rfl
        · exact absurd (hb.1 rfl) (by omega)
      clear hb
      go_enter Tryd.func35, Tryd.ntmps35
      go_wp2_with fail
      go_ret
      exact ⟨by first | rfl | simp [i1, i2, i3, i4], rfl⟩
  · have i1 : ¬ (32 : Int) ≤ (v : Int) := by omega
    by_cases h9 : v = 9
    · subst h9
      obtain rfl : B = true := hb.2 (.inr (.inl rfl))
      clear hb
      go_enter Tryd.func35, Tryd.ntmps35
      go_wp2_with fail
      go_ret
      exact ⟨rfl, rfl⟩
    · by_cases h10 : v = 10
      · subst h10
        obtain rfl : B = true := hb.2 (.inr (.inr rfl))
        clear hb
        go_enter Tryd.func35, Tryd.ntmps35
        go_wp2_with fail
        go_ret
        exact ⟨rfl, rfl⟩
      · have i3 : ¬ (v : Int) = 9 := by omega
        have i4 : ¬ (v : Int) = 10 := by omega
        obtain rfl : B = false := by
          cases B
          · rfl
          · exact absurd (hb.1 rfl) (by omega)
        clear hb
        go_enter Tryd.func35, Tryd.ntmps35
        go_wp2_with fail
        go_ret
        exact ⟨by first | rfl | simp [i1, i3, i4], rfl⟩
end Conf18
end Go.Proofs.YtbcicbiphgeghaaDoor
/- lex: Lines. Conditions: texts of at most 65536 bytes; the cell of bytealg.MaxLen. -/
namespace Go.Proofs.YtbcicbiphgeghaaDoor
open Go.RowKit Go.ChangeShapes Go.WideShapes Go.ChangeAt Go.Deep
namespace Conf18
open Addr05 (splitL strv MaxAt size_str str_get split_part split_len cut_len)
/-- A line's words. -/
def lnW (x : List UInt8) : List (List UInt8) := wordsF (Lib.cut x [35]).1
/-- The lines of the first i parts that have words. -/
def lnA (ps : List (List UInt8)) : Nat → List (Nat × List (List UInt8))
  | 0 => []
  | i + 1 => match ps[i]? with
    | none => lnA ps i
    | some x => if lnW x = [] then lnA ps i else lnA ps i ++ [(i + 1, lnW x)]
theorem lnA_len (ps : List (List UInt8)) : ∀ i, (lnA ps i).length ≤ i
  | 0 => Nat.le_refl _
  | i + 1 => by
    have ih := lnA_len ps i
    unfold lnA
    split
    · omega
    · split
      · omega
      · rw [List.length_append, List.length_singleton]; omega
/-- What is wrong with a part; 0: nothing. -/
def lnBad (i : Nat) (x : List UInt8) : Int := if 4096 ≤ i then 3 else if (x.all fun c => rightC c.toNat) = true then 0 else 4
/-- Lines in memory: their row, and each one's row of words. -/
structure LnAt (w : World) (base : Nat) (v : Value) (L : List (Nat × List (List UInt8))) (vs : List Value) : Prop where
  len : vs.length = L.length
  row : w.ownsRow base 142 2 v L.length ((L.zip vs).map fun p => [.int .i64 (p.1.1 : Int), p.2]).flatten
  words : ∀ (i : Nat) (u : Value) (x : Nat × List (List UInt8)), vs[i]? = some u → L[i]? = some x → OwnS w base u x.2
theorem LnAt.below {w w' : World} {base : Nat} {v : Value} {L : List (Nat × List (List UInt8))} {vs : List Value} (h : LnAt w base v L vs) (hb : Below w.heap.size w w') : LnAt w' base v L vs :=
  ⟨h.len, row_on h.row hb, fun i u x h1 h2 => (h.words i u x h1 h2).below hb⟩
theorem LnAt.push {w w' : World} {base : Nat} {v v' u : Value} {L : List (Nat × List (List UInt8))} {vs : List Value} {i : Nat} {W : List (List UInt8)} (h : LnAt w base v L vs) (hu : OwnS w base u W) (hbase : base ≤ w.heap.size)
    (h1 : w'.ownsRow base 142 2 v' (L.length + 1) (((L.zip vs).map fun p => [.int .i64 (p.1.1 : Int), p.2]).flatten ++ [.int .i64 ((i : Nat) : Int), u])) (h2 : Grew w v w' v') : LnAt w' base v' (L ++ [(i, W)]) (vs ++ [u]) := by
  have hl := h.len
  have keep : ∀ (u : Value) (ws : List (List UInt8)), OwnS w base u ws → OwnS w' base u ws := fun u ws ho => ho.kept h2.grown (rows_apart ho h.row (by decide))
  refine ⟨by simp [hl], ?_, fun j a x h3 h4 => ?_⟩
  · rw [List.zip_append hl.symm, List.map_append, List.flatten_append, List.length_append]
    exact h1
  · rcases Nat.lt_trichotomy j L.length with hj | hj | hj
    · rw [List.getElem?_append_left (by omega)] at h3 h4
      exact keep _ _ (h.words j a x h3 h4)
    · subst hj
      rw [List.getElem?_append_right (by omega)] at h3 h4
      rw [hl] at h3
      simp at h3 h4
      subst h3 h4
      exact keep _ _ hu
    · rw [List.getElem?_eq_none (by simp; omega)] at h4
      cases h4
theorem LnAt.weaken {w : World} {base base' : Nat} {v : Value} {L : List (Nat × List (List UInt8))} {vs : List Value} (h : LnAt w base v L vs) (hb : base' ≤ base) : LnAt w base' v L vs :=
  ⟨h.len, row_weaken h.row hb, fun i u x h1 h2 => OwnR.weaken (h.words i u x h1 h2) hb⟩
theorem info_ln : (Tryd.prog.info? 142).map (fun i => (i.zero, i.size, i.bytes)) = some (some (.agg #[.int .i64 0, .slice none 0 0]), 2, 32) := by kernel_rfl
def LinesEnd (s : List UInt8) (w w' : World) (e : Ending) : Prop :=
  Below w.heap.size w w' ∧
  ((∃ (i : Nat) (x : List UInt8), (splitL 10 s)[i]? = some x ∧ lnBad i x ≠ 0 ∧ (∀ (j : Nat) (y : List UInt8), j < i → (splitL 10 s)[j]? = some y → lnBad j y = 0) ∧ e = .returned (.tuple #[.slice none 0 0, .int .i64 ((i + 1 : Nat) : Int), .int .i64 (lnBad i x)])) ∨
   ((∀ (j : Nat) (y : List UInt8), (splitL 10 s)[j]? = some y → lnBad j y = 0) ∧ ∃ v vs, e = .returned (.tuple #[v, .int .i64 0, .int .i64 0]) ∧ LnAt w' w.heap.size v (lnA (splitL 10 s) (splitL 10 s).length) vs))
set_option maxRecDepth 20000 in
set_option maxHeartbeats 8000000 in
theorem lines_any (s : List UInt8) (hs : s.length ≤ 65536) (w : World) (hm : MaxAt w) :
    Calls Tryd.prog 63 #[.string (str s)] w fun e w' => LinesEnd s w w' e := by
  have hsz : (str s).size = s.length := size_str s
  have i0 : ¬ (65536 : Int) < (s.length : Int) := by omega
  have q := split_big 10 s hs w hm
  have hsl := split_len 10 s
  have hsp := split_part 10 s
  unfold LinesEnd
  obtain ⟨ps, hps⟩ : ∃ ps, splitL 10 s = ps := ⟨_, rfl⟩
  rw [hps] at q hsl hsp ⊢
  obtain ⟨n, hn⟩ : ∃ n, ps.length = n := ⟨_, rfl⟩
  rw [hn] at q hsl ⊢
  have hnb : n ≤ 65537 := by omega
  clear hps
  replace q := hide q
  replace hsp := hide hsp
  replace hm := hide hm
  replace hn := hide hn
  go_enter Tryd.func63, Tryd.ntmps63
  go_wp2_with fail
  refine q.out.mono ?_
  rintro e w1 ⟨A1, c1, rfl, hx1, hc1, hb1⟩
  have hm1 := hm.out.below hb1
  have hz1 := hb1.size
  clear q
  replace hx1 := hide hx1
  replace hb1 := hide hb1
  replace hm1 := hide hm1
  go_wp2_with fail
  go_loopw [5, 6, 7, 8, 9, 16] (fun v _ _ _ _ iv wr => ∃ (i : Nat) (vs : List Value), i ≤ n ∧ iv = .int .i64 (i : Int) ∧ (∀ (j : Nat) (y : List UInt8), j < i → ps[j]? = some y → lnBad j y = 0) ∧ LnAt wr w1.heap.size v (lnA ps i) vs ∧ Below w1.heap.size w1 wr ∧ Below w.heap.size w wr) (fun _ _ _ _ _ iv _ => n - (intOf iv).toNat)
  case atStart => exact ⟨0, [], by omega, rfl, fun j y h => by omega, ⟨rfl, World.ownsRow_nil _ _ _ _, fun i u x h => by simp at h⟩, Below.refl _ _, hb1.out⟩
  case round =>
    obtain ⟨i, vs, hi, rfl, hall, hL, hbr, hB⟩ := hrel
    by_cases hin : i < n
    · have i1 : (i : Int) < (n : Int) := by omega
      obtain ⟨bk, off, x, rfl, hbk, hpi, hcell⟩ := IsR.at (f := strv) (IsV.below hx1.out hbr) hin
      have hxl := hsp.out x (List.mem_of_getElem? hpi)
      have hxs : (str x).size = x.length := size_str x
      have wi1 : IntKind.i64.wrap ((i : Int) + 1) = ((i + 1 : Nat) : Int) := by rw [wraps62 _ (by omega) (by omega)]; omega
      have hll := lnA_len ps i
      have hla : lnA ps (i + 1) = if lnW x = [] then lnA ps i else lnA ps i ++ [(i + 1, lnW x)] := by rw [lnA, hpi]
      have hmr := hm1.out.below hbr
      have hzr := hB.size
      unfold strv at hcell
      obtain ⟨Av, cv, hv, -, -, -⟩ := own_isv hL.row
      subst hv
      obtain ⟨LN, hLN⟩ : ∃ l, lnA ps i = l := ⟨_, rfl⟩
      rw [hLN] at hL hll hla ⊢
      clear hLN
      replace hall := hide hall
      replace hL := hide hL
      replace hbr := hide hbr
      replace hB := hide hB
      replace hpi := hide hpi
      replace hla := hide hla
      replace hmr := hide hmr
      by_cases h40 : 4096 ≤ i
      · have j1 : (4096 : Int) ≤ (i : Int) := by omega
        have hbd : lnBad i x = 3 := by unfold lnBad; rw [if_pos h40]
        replace hbd := hide hbd
        go_wp2_with fail
        refine bodyPost_ret (v := .tuple #[.slice none 0 0, .int .i64 ((i + 1 : Nat) : Int), .int .i64 3]) (by simp [results, Tryd.results63, go_sem]) rfl ?_
        exact ⟨hB.out, .inl ⟨i, x, hpi.out, by rw [hbd.out]; decide, hall.out, by rw [hbd.out]⟩⟩
      · have j1 : ¬ (4096 : Int) ≤ (i : Int) := by omega
        go_wp2_with fail
        go_loopw [8, 27] (fun _ kv wx => ∃ k : Nat, k ≤ x.length ∧ kv = .int .i64 (k : Int) ∧ (∀ (j : Nat) (c : UInt8), j < k → x[j]? = some c → rightC c.toNat = true) ∧ wr = wx) (fun _ kv _ => x.length - (intOf kv).toNat)
        case atStart => exact ⟨0, by omega, rfl, fun j c h => by omega, rfl⟩
        case round =>
          obtain ⟨k, hk, rfl, hgood, rfl⟩ := hrel
          by_cases hkx : k < x.length
          · have k1 : (k : Int) < (x.length : Int) := by omega
            have k2 : (0 : Int) ≤ (k : Int) := by omega
            obtain ⟨c, hc⟩ : ∃ c, x[k]? = some c := ⟨_, List.getElem?_eq_getElem hkx⟩
            have hks2 : k < (str x).size := by omega
            have ek := str_get x k c hc hks2
            have qr := fun w => lexRight_any c.toNat w
            obtain ⟨rb, hrb⟩ : ∃ b, rightC c.toNat = b := ⟨_, rfl⟩
            rw [hrb] at qr
            have wk1 : IntKind.i64.wrap ((k : Int) + 1) = ((k + 1 : Nat) : Int) := by rw [wraps62 _ (by omega) (by omega)]; omega
            replace qr := hide qr
            replace hgood := hide hgood
            replace hc := hide hc
            replace hrb := hide hrb
            go_wp2_with fail
            refine (qr.out wr).mono ?_
            rintro e w3 ⟨rfl, rfl⟩
            cases rb
            · have hbd : lnBad i x = 4 := by
                unfold lnBad
                rw [if_neg h40, if_neg]
                intro h
                have := List.all_eq_true.1 h c (List.mem_of_getElem? hc.out)
                rw [hrb.out] at this
                cases this
              clear qr
              replace hbd := hide hbd
              go_wp2_with fail
              refine bodyPost_ret (v := .tuple #[.slice none 0 0, .int .i64 ((i + 1 : Nat) : Int), .int .i64 4]) (by simp [results, Tryd.results63, go_sem]) rfl ?_
              exact ⟨hB.out, .inl ⟨i, x, hpi.out, by rw [hbd.out]; decide, hall.out, by rw [hbd.out]⟩⟩
            · have hgood2 : ∀ (j : Nat) (c : UInt8), j < k + 1 → x[j]? = some c → rightC c.toNat = true := by
                intro j d hj hd
                by_cases hjk : j = k
                · subst hjk
                  obtain rfl := Option.some.inj (hc.out.symm.trans hd)
                  exact hrb.out
                · exact hgood.out j d (by omega) hd
              clear qr hgood
              replace hgood2 := hide hgood2
              go_wp2_with fail
              exact ⟨⟨k + 1, by omega, by first | rfl | go_num, hgood2.out, by first | rfl | trivial⟩, by simp only [intOf]; omega⟩
          · obtain rfl : k = x.length := by omega
            have k1 : ((x.length : Int) < (x.length : Int)) = False := by simp
            have hbd : lnBad i x = 0 := by
              unfold lnBad
              rw [if_neg h40, if_pos]
              rw [List.all_eq_true]
              intro c hc
              obtain ⟨j, hj⟩ := List.mem_iff_getElem?.1 hc
              exact hgood j c (List.getElem?_eq_some_iff.1 hj).1 hj
            have qc := cut_big [35] x (by omega) wr hmr.out
            have hcl := (cut_len x [35]).1
            clear hgood
            replace hbd := hide hbd
            replace qc := hide qc
            go_wp2_with fail
            refine qc.out.mono ?_
            rintro e w3 ⟨rfl, hb3⟩
            clear qc
            obtain ⟨x1, hx1'⟩ : ∃ l, (Lib.cut x [35]).1 = l := ⟨_, rfl⟩
            rw [hx1'] at hcl ⊢
            have hww : lnW x = wordsF x1 := by unfold lnW; rw [hx1']
            have qw := words_any x1 (by omega)
            rw [← hww] at qw
            clear hx1' hww
            obtain ⟨W, hW⟩ : ∃ l, lnW x = l := ⟨_, rfl⟩
            rw [hW] at qw
            have hla2 := hla.out
            rw [hW] at hla2
            clear hla hW
            have hB3 := hB.out.trans (hb3.mono hzr)
            have hL3 := LnAt.below hL.out hb3
            have hbr3 := hbr.out.trans (hb3.mono hbr.out.size)
            have hz3 := hB3.size
            clear hb3 hL hB hbr
            replace qw := hide qw
            replace hla2 := hide hla2
            replace hB3 := hide hB3
            replace hL3 := hide hL3
            replace hbr3 := hide hbr3
            go_wp2_with fail
            refine (qw.out w3).mono ?_
            rintro e w4 ⟨v4, rfl, hv4, hb4⟩
            clear qw
            have hB4 := hB3.out.trans (hb4.mono hz3)
            have hL4 := LnAt.below hL3.out hb4
            have hbr4 := hbr3.out.trans (hb4.mono hbr3.out.size)
            have hv4' := OwnR.weaken hv4 hbr3.out.size
            have hz4 := hbr4.size
            clear hb4 hL3 hB3 hbr3 hv4
            obtain ⟨A4, c4, rfl, -, -, -⟩ := own_isv hv4'
            have hgood0 : ∀ (j : Nat) (y : List UInt8), j < i + 1 → ps[j]? = some y → lnBad j y = 0 := by
              intro j y hj hy
              by_cases hji : j = i
              · subst hji
                obtain rfl := Option.some.inj (hpi.out.symm.trans hy)
                exact hbd.out
              · exact hall.out j y (by omega) hy
            clear hall hbd
            replace hB4 := hide hB4
            replace hL4 := hide hL4
            replace hbr4 := hide hbr4
            replace hv4' := hide hv4'
            replace hgood0 := hide hgood0
            by_cases hWn : W = []
            · have hla3 := hla2.out
              rw [if_pos hWn] at hla3
              subst hWn
              clear hla2
              replace hla3 := hide hla3
              go_wp2_with fail
              exact ⟨⟨i + 1, vs, by omega, by first | rfl | go_num, hgood0.out, by rw [hla3.out]; exact hL4.out, hbr4.out, hB4.out⟩, by simp only [intOf]; omega⟩
            · have hla3 := hla2.out
              rw [if_neg hWn] at hla3
              have hW0 : (0 : Int) < (W.length : Int) := by have := List.length_pos_iff.2 hWn; omega
              clear hla2 hWn
              have hzL : LN.length ≤ 1099511627774 := by omega
              replace hla3 := hide hla3
              go_upto_region 18 with fail
              apply wp_region_lit
              iterate 6 (refine wpList_plain rfl fun K hK => ?_; go_simp; refine hK _ _ ?_; clear hK K)
              refine wpl_lit_c Tryd.underlying133 info_ln rfl (by decide) (by decide) rfl (.tmp 49) (.tmp 54) rfl w1.heap.size _ LN.length _ [.int .i64 ((i + 1 : Nat) : Int), .slice A4 W.length c4] rfl rfl hL4.out.row rfl (by intro u hu; simp only [List.mem_cons, List.not_mem_nil, or_false] at hu; rcases hu with rfl | rfl <;> rfl) hz4 (by omega) fun v5 w5 h1 h2 => ?_
              have hL5 := hL4.out.push hv4'.out hz4 h1 h2
              have hb5 := below_of_grown h2.grown hz4 fun k hk => (World.ownsRow.lt hL4.out.row k hk).1
              clear h1 h2
              replace hL5 := hide hL5
              replace hb5 := hide hb5
              iterate 1 (refine wpList_plain rfl fun K hK => ?_; go_simp; refine hK _ _ ?_; clear hK K)
              refine wpList_nil ?_
              go_simp
              go_wp2_with fail
              have hbr5 := hbr4.out.trans hb5.out
              exact ⟨⟨i + 1, vs ++ [.slice A4 W.length c4], by omega, by first | rfl | go_num, hgood0.out, by rw [hla3.out]; exact hL5.out, hbr5, hB4.out.trans (hb5.out.mono hz1)⟩, by simp only [intOf]; omega⟩
    · obtain rfl : i = n := by omega
      obtain ⟨Av, cv, hv, -, -, -⟩ := own_isv hL.row
      subst hv
      have i1 : ((i : Int) < (i : Int)) = False := by simp
      have hall2 : ∀ (j : Nat) (y : List UInt8), ps[j]? = some y → lnBad j y = 0 := fun j y h => hall j y (by rw [← hn.out]; exact (List.getElem?_eq_some_iff.1 h).1) h
      clear hall
      replace hall2 := hide hall2
      replace hL := hide hL
      replace hbr := hide hbr
      replace hB := hide hB
      go_wp2_with fail
      refine bodyPost_ret (v := .tuple #[.slice Av (lnA ps i).length cv, .int .i64 0, .int .i64 0]) (by simp [results, Tryd.results63, go_sem]) rfl ?_
      exact ⟨hB.out, .inr ⟨hall2.out, _, vs, rfl, hL.out.weaken hz1⟩⟩
end Conf18
end Go.Proofs.YtbcicbiphgeghaaDoor
/- addr: V4, V6, Bits; Compare, and the law's less. No condition. -/
namespace Go.Proofs.YtbcicbiphgeghaaDoor
open Go.RowKit Go.ChangeShapes Go.WideShapes Go.ChangeAt Go.Deep
namespace Addr05
theorem Bits_any (v6 : Bool) (hi lo : Int) (w : World) :
    Calls Tryd.prog 56 #[.agg #[.bool v6, .int .u64 hi, .int .u64 lo]] w fun e w' => e = .returned (.int .i64 (if v6 then 128 else 32)) ∧ Below w.heap.size w w' := by
  cases v6
  · go_enter Tryd.func56, Tryd.ntmps56
    go_wp2_with fail
    go_ret
    exact ⟨rfl, (Below.refl _ _).alloc (Nat.le_refl _) _⟩
  · go_enter Tryd.func56, Tryd.ntmps56
    go_wp2_with fail
    go_ret
    exact ⟨rfl, (Below.refl _ _).alloc (Nat.le_refl _) _⟩
def lessB (a b : Adr) : Bool := if a.v6 = b.v6 then (decide (a.hi < b.hi) || (decide (a.hi = b.hi) && decide (a.lo < b.lo))) else b.v6
def cmpI (a b : Adr) : Int := if a.v6 = b.v6 ∧ a.hi = b.hi ∧ a.lo = b.lo then 0 else if lessB a b then -1 else 1
theorem below2 (w : World) (o o' : Obj) : Below w.heap.size w ((w.alloc o).alloc o') := ((Below.refl _ _).alloc (Nat.le_refl _) _).alloc (by simp) _
end Addr05
end Go.Proofs.YtbcicbiphgeghaaDoor
/- addr: get: bytes as a number. Conditions: at most 2^40 bytes. -/
namespace Go.Proofs.YtbcicbiphgeghaaDoor
open Go.RowKit Go.ChangeShapes Go.WideShapes Go.ChangeAt Go.Deep
namespace Addr05
def getN (l : List UInt8) : Nat := l.foldl (fun n c => (n * 256 + c.toNat) % 18446744073709551616) 0
theorem getN_snoc (l : List UInt8) (k : Nat) (h : k < l.length) : getN (l.take (k + 1)) = (getN (l.take k) * 256 + (l.getD k 0).toNat) % 18446744073709551616 := by
  have e : l.take (k + 1) = l.take k ++ [l[k]] := by rw [List.take_add_one, List.getElem?_eq_getElem h]; rfl
  have e2 : l.getD k 0 = l[k] := by rw [List.getD_eq_getElem?_getD, List.getElem?_eq_getElem h]; rfl
  unfold getN
  rw [e, e2, List.foldl_append]
  rfl
theorem getN_lt (l : List UInt8) : getN l < 18446744073709551616 := by
  unfold getN
  rcases List.eq_nil_or_concat l with rfl | ⟨r, x, rfl⟩
  · decide
  · simp only [List.concat_eq_append, List.foldl_append, List.foldl_cons, List.foldl_nil]
    exact Nat.mod_lt _ (by omega)
end Addr05
end Go.Proofs.YtbcicbiphgeghaaDoor
