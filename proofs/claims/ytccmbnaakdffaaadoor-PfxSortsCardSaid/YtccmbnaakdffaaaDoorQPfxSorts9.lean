/- addr: Parse: the address that a text is. Condition: the cell of bytealg.MaxLen, a text of at most 80 bytes. -/
import Derived.Test.YtccmbnaakdffaaaDoorQPfxSorts8
import Derived.Test.YtccmbnaakdffaaaDoorQPfxSorts4
import Derived.Test.YtccmbnaakdffaaaDoorQPfxSorts7
namespace Go.Proofs.YtccmbnaakdffaaaDoor
open Go.RowKit Go.ChangeShapes Go.WideShapes Go.ChangeAt Go.Deep
namespace Addr05
def Adr.arr (a : Adr) : Array Value := #[.bool a.v6, .int .u64 (a.hi : Int), .int .u64 (a.lo : Int)]
def adrP : Option Adr → Array Value
  | none => #[.bool false, .int .u64 0, .int .u64 0]
  | some a => a.arr
def errP (r : Option Adr) : Int := if r.isSome then 0 else 18
def pickT (s : List UInt8) : Option Adr → Option Adr
  | none => none
  | some a => if textA a = s then some a else none
theorem parseF_pick (s : List UInt8) (h : ¬ 39 < s.length) : parseF s = pickT s (rawF s) := by
  unfold parseF
  rw [if_neg h]
  cases rawF s <;> rfl
/-- What lies in the variable behind both readings. -/
def RawAt (S g : Nat) (r : Option Adr) (w wx : World) : Prop := ∃ a : Adr, wx.heap[g]? = some (.cells a.arr 24 (0, 0)) ∧ (∀ b, r = some b → b = a) ∧ wx.heap[S]? = some (.cells #[.bool false, .int .u64 0, .int .u64 0] 24 (0, 0)) ∧ Below S w wx ∧ g < wx.heap.size
theorem six_arr (s : List UInt8) : ∃ a : Adr, adrO (sixF s) = a.arr ∧ ∀ p, sixF s = some p → a = ⟨true, p.1, p.2⟩ := by
  cases h : sixF s with
  | none => exact ⟨⟨false, 0, 0⟩, rfl, fun p e => by cases e⟩
  | some p => exact ⟨⟨true, p.1, p.2⟩, rfl, fun q e => by cases e; rfl⟩
set_option maxRecDepth 20000 in
set_option maxHeartbeats 8000000 in
theorem Parse_any (s : List UInt8) (hs : s.length ≤ 80) (w : World) (hm : MaxAt w) :
    Calls Tryd.prog 11 #[.string (str s)] w fun e w' => e = .returned (.tuple #[.agg (adrP (parseF s)), .int .i64 (errP (parseF s))]) ∧ Below w.heap.size w w' := by
  obtain ⟨w1, hw1⟩ : ∃ w1, w.alloc (.cells #[.bool false, .int .u64 0, .int .u64 0] 24) = w1 := ⟨_, rfl⟩
  have hB : Below w.heap.size w w1 := hw1 ▸ (Below.refl _ _).alloc (Nat.le_refl _) _
  have hg : w1.heap[w.heap.size]? = some (.cells #[.bool false, .int .u64 0, .int .u64 0] 24 (0, 0)) := hw1 ▸ blk_new _ _ _
  have hzw : w.heap.size < w1.heap.size := by rw [← hw1]; simp
  have hz : (str s).size = s.length := size_str s
  have hm1 := hm.below hB
  by_cases h39 : 39 < s.length
  · have hR : parseF s = none := by unfold parseF; rw [if_pos h39]
    rw [hR]
    have t1 : decide ((39 : Int) < (s.length : Int)) = true := by rw [decide_eq_true_eq]; omega
    replace hR := hide hR
    replace h39 := hide h39
    replace hB := hide hB
    replace hg := hide hg
    replace hm1 := hide hm1
    replace hm := hide hm
    go_enter Tryd.func11, Tryd.ntmps11
    go_upto_region 2 with fail
    clear hw1
    apply wp_region_lit
    iterate 1 (refine wpList_plain rfl fun K hK => ?_; go_simp; refine hK _ _ ?_; clear hK K)
    refine wpl_st rfl 24 (.tmp 2) (.tmp 9) rfl (w.heap.size) 0 rfl (#[.bool false, .int .u64 0, .int .u64 0]) rfl hg.out (by simp) (by kernel_rfl) (adr_one _ _ _) fun w9 hg9 g9 => ?_
    rw [putA_whole _ _ (by rfl)] at hg9
    have hb9 : Below (w.heap.size) w w9 := (hB.out).trans (below_grown g9 (by have := (hB.out).size; omega) (Nat.le_refl _))
    have hld : (loadVar 24 ⟨w.heap.size, 0, none⟩).run Tryd.prog w9 = .ok (.agg (#[.bool false, .int .u64 0, .int .u64 0])) w9 := by
      simpa using run_loadVar_mid w9 (w.heap.size) 0 24 (#[.bool false, .int .u64 0, .int .u64 0]).toList _ (blk_range hg9) Tryd.underlying24 rfl (by kernel_rfl)
    clear hg9 g9
    replace hld := hide hld
    replace hb9 := hide hb9
    iterate 1 (refine wpList_plain rfl fun K hK => ?_; go_simp; refine hK _ _ ?_; clear hK K)
    refine wpList_nil ?_
    go_simp
    go_wp2_with fail
    exact bodyPost_ret (v := .tuple #[.agg #[.bool false, .int .u64 0, .int .u64 0], .int .i64 18]) (by simp [results, Tryd.results11, asAddr, hld.out, Result.andThen]) rfl ⟨rfl, hb9.out⟩
  have t1 : decide ((39 : Int) < (s.length : Int)) = false := by rw [decide_eq_false_iff_not]; omega
  obtain ⟨RW, hRW⟩ : ∃ r, rawF s = r := ⟨_, rfl⟩
  have hPF := parseF_pick s h39
  rw [hRW] at hPF
  have hrok : ∀ a, RW = some a → a.ok := fun a h => (raw_ok s a (hRW.trans h)).1
  have hRW2 := hRW
  unfold rawF at hRW2
  obtain ⟨PF, hPF'⟩ : ∃ x, parseF s = x := ⟨_, rfl⟩
  rw [hPF'] at hPF
  rw [hPF']
  have hfour := four_any s hs w1 hm1
  obtain ⟨c, hc⟩ : ∃ c, decide (0 ≤ Lib.indexByte s 58) = c := ⟨_, rfl⟩
  have hcon : ∀ w : World, Calls Tryd.prog 41 #[.string (str s), .string ⟨#[58]⟩] w fun e w' => e = .returned (.bool c) ∧ w' = w := by
    intro w
    rw [← hc]
    exact Tryd.strings_Contains_one (str s) 58 w
  obtain ⟨F1, hF1⟩ : ∃ x, (fourF s).1 = x := ⟨_, rfl⟩
  obtain ⟨F2, hF2⟩ : ∃ x, (fourF s).2 = x := ⟨_, rfl⟩
  rw [hF1, hF2] at hfour hRW2
  have hsix := six_any s hs
  obtain ⟨X, hX1, hX2⟩ := six_arr s
  obtain ⟨S6, hS6⟩ : ∃ x, sixF s = x := ⟨_, rfl⟩
  rw [hS6] at hsix hX1 hX2 hRW2
  rw [hX1] at hsix
  have e0 : c = true → RW = S6.map fun p => ⟨true, p.1, p.2⟩ := fun h => by rw [h] at hc; rw [← hRW2, if_pos (of_decide_eq_true hc)]
  have e1 : c = false → RW = if F2 = true then some ⟨false, 0, F1⟩ else none := fun h => by rw [h] at hc; rw [← hRW2, if_neg (of_decide_eq_false hc)]
  obtain ⟨x6, hx6⟩ : ∃ x, S6.isSome = x := ⟨_, rfl⟩
  rw [hx6] at hsix
  clear hRW2 hc hX1 hPF' hF1 hF2 hS6 hRW
  replace hB := hide hB
  replace hg := hide hg
  replace hm1 := hide hm1
  replace hm := hide hm
  replace hPF := hide hPF
  replace hrok := hide hrok
  replace hfour := hide hfour
  replace hcon := hide hcon
  replace hsix := hide hsix
  replace hX2 := hide hX2
  replace e0 := hide e0
  replace e1 := hide e1
  replace hx6 := hide hx6
  replace h39 := hide h39
  go_enter Tryd.func11, Tryd.ntmps11
  go_upto_region 3 with fail
  clear hw1
  apply wp_region_lit
  iterate 1 (refine wpList_plain rfl fun K hK => ?_; go_simp; refine hK _ _ ?_; clear hK K)
  refine wpList_plain rfl fun K hK => ?_
  go_simp
  refine (hfour.out).mono ?_
  rintro e w2 ⟨rfl, hb2⟩
  have hg2 := blk_below hb2 hzw hg.out
  have hB2 := hB.out.trans (hb2.mono hB.out.size)
  have hz2 := hb2.size
  have hm2 := hm1.out.below hb2
  clear hb2 hfour hg hB hm1
  replace hg2 := hide hg2
  replace hB2 := hide hB2
  replace hm2 := hide hm2
  go_simp
  refine hK _ _ ?_
  clear hK K
  iterate 3 (refine wpList_plain rfl fun K hK => ?_; go_simp; refine hK _ _ ?_; clear hK K)
  refine wpl_new rfl rfl 24 _ (alloc_adr _ rfl) 4 rfl (.tmp 13) rfl _ (fun _ => rfl) (fun _ => rfl) rfl (by kernel_rfl) (adr_one false 0 (F1 : Int)) ?_
  intro w3 hg3 hb3 hz3
  have hr3 := blk_below hb3 (by omega) hg2.out
  have hB3 := hB2.out.trans (hb3.mono hB2.out.size)
  have hm3 := hm2.out.below hb3
  clear hb3 hg2 hB2 hm2
  replace hg3 := hide hg3
  replace hr3 := hide hr3
  replace hB3 := hide hB3
  replace hm3 := hide hm3
  iterate 1 (refine wpList_plain rfl fun K hK => ?_; go_simp; refine hK _ _ ?_; clear hK K)
  refine wpList_nil ?_
  go_simp
  obtain ⟨gg, hgg⟩ : ∃ x, w2.heap.size = x := ⟨_, rfl⟩
  rw [hgg] at hg3 hz3 hz2 ⊢
  obtain ⟨ok, hok⟩ : ∃ b, RW.isSome = b := ⟨_, rfl⟩
  replace hgg := hide hgg
  replace hok := hide hok
  go_wp2_with fail
  refine (hcon.out w3).mono ?_
  rintro e w4 ⟨rfl, rfl⟩
  go_upto_if 16 with fail
  go_cut [5] (fun bv wx => bv = .bool ok ∧ RawAt w.heap.size gg RW w wx)
  case first =>
    cases c
    · have e2 := e1.out rfl
      replace e2 := hide e2
      go_wp2_with fail
      go_meet
      refine ⟨?_, ⟨⟨false, 0, F1⟩, hg3.out, fun b h => ?_, hr3.out, hB3.out, by omega⟩⟩
      · rw [← hok.out, e2.out]
        cases F2 <;> rfl
      · rw [e2.out] at h
        split at h
        · cases h; rfl
        · cases h
    · have e2 := e0.out rfl
      replace e2 := hide e2
      go_upto_region 5 with fail
      apply wp_region_lit
      iterate 1 (refine wpList_plain rfl fun K hK => ?_; go_simp; refine hK _ _ ?_; clear hK K)
      refine wpList_plain rfl fun K hK => ?_
      go_simp
      refine (hsix.out w4 hm3.out).mono ?_
      rintro e w5 ⟨rfl, hb5⟩
      have hg5 := blk_below hb5 (by omega) hg3.out
      have hr5 := blk_below hb5 (by omega) hr3.out
      have hB5 := hB3.out.trans (hb5.mono hB3.out.size)
      have hz5 := hb5.size
      clear hb5 hsix hg3 hr3 hB3
      replace hg5 := hide hg5
      replace hr5 := hide hr5
      replace hB5 := hide hB5
      go_simp
      refine hK _ _ ?_
      clear hK K
      iterate 3 (refine wpList_plain rfl fun K hK => ?_; go_simp; refine hK _ _ ?_; clear hK K)
      refine wpl_st rfl 24 (.tmp 4) (.tmp 20) rfl gg 0 rfl X.arr rfl hg5.out (by simp [Adr.arr]) (by kernel_rfl) (adr_one _ _ _) fun w6 hg6 g6 => ?_
      rw [putA_whole _ _ (by rfl)] at hg6
      have hr6 := grown_other g6 (by omega) (by omega) hr5.out
      have hB6 : Below w.heap.size w w6 := hB5.out.trans (below_grown g6 (by omega) (by omega))
      have hz6 := g6.size
      clear g6 hg5 hr5 hB5
      replace hg6 := hide hg6
      replace hr6 := hide hr6
      replace hB6 := hide hB6
      iterate 1 (refine wpList_plain rfl fun K hK => ?_; go_simp; refine hK _ _ ?_; clear hK K)
      refine wpList_nil ?_
      go_wp2_with fail
      go_meet
      refine ⟨?_, ⟨X, hg6.out, fun b h => ?_, hr6.out, hB6.out, by omega⟩⟩
      · rw [← hok.out, ← hx6.out, e2.out]
        cases S6 <;> rfl
      · rw [e2.out] at h
        obtain ⟨p, hp, rfl⟩ := Option.map_eq_some_iff.1 h
        exact (hX2.out p hp).symm
  case rest =>
    obtain ⟨rfl, a, hga, hab, hr, hBc, hzc⟩ := hcut
    clear hg3 hr3 hB3 hsix hX2 e0 e1 hx6 hcon hm3
    replace hga := hide hga
    replace hr := hide hr
    replace hBc := hide hBc
    have hgl : w.heap.size < gg := by omega
    cases RW with
    | none =>
      obtain rfl : false = ok := hok.out
      obtain rfl : PF = none := hPF.out
      clear hok hPF hrok hab
      go_upto_region 7 with fail
      apply wp_region_lit
      iterate 1 (refine wpList_plain rfl fun K hK => ?_; go_simp; refine hK _ _ ?_; clear hK K)
      refine wpl_st rfl 24 (.tmp 2) (.tmp 30) rfl (w.heap.size) 0 rfl (#[.bool false, .int .u64 0, .int .u64 0]) rfl hr.out (by simp) (by kernel_rfl) (adr_one _ _ _) fun w9 hg9 g9 => ?_
      rw [putA_whole _ _ (by rfl)] at hg9
      have hb9 : Below (w.heap.size) w w9 := (hBc.out).trans (below_grown g9 (by have := (hBc.out).size; omega) (Nat.le_refl _))
      have hld : (loadVar 24 ⟨w.heap.size, 0, none⟩).run Tryd.prog w9 = .ok (.agg (#[.bool false, .int .u64 0, .int .u64 0])) w9 := by
        simpa using run_loadVar_mid w9 (w.heap.size) 0 24 (#[.bool false, .int .u64 0, .int .u64 0]).toList _ (blk_range hg9) Tryd.underlying24 rfl (by kernel_rfl)
      clear hg9 g9
      replace hld := hide hld
      replace hb9 := hide hb9
      iterate 1 (refine wpList_plain rfl fun K hK => ?_; go_simp; refine hK _ _ ?_; clear hK K)
      refine wpList_nil ?_
      go_simp
      go_wp2_with fail
      exact bodyPost_ret (v := .tuple #[.agg #[.bool false, .int .u64 0, .int .u64 0], .int .i64 18]) (by simp [results, Tryd.results11, asAddr, hld.out, Result.andThen]) rfl ⟨rfl, hb9.out⟩
    | some b =>
      obtain rfl : true = ok := hok.out
      obtain rfl := hab b rfl
      have hok2 := hrok.out b rfl
      have hPF2 : PF = if textA b = s then some b else none := hPF.out
      obtain ⟨v6, hi, lo⟩ := b
      have hh : hi < 18446744073709551616 := hok2.1
      have hl : lo < 18446744073709551616 := hok2.2
      clear hok hPF hrok hab hok2
      unfold textA at hPF2
      unfold Adr.arr at hga
      have hcg := blk_cell hga.out
      have htx := text_any v6 hi lo hh hl wc
      dsimp only at hPF2
      obtain ⟨T, hT⟩ : ∃ x, textL v6 hi lo = x := ⟨_, rfl⟩
      rw [hT] at hPF2 htx
      replace hPF2 := hide hPF2
      replace htx := hide htx
      replace hT := hide hT
      by_cases hTs : T = s
      · obtain rfl : PF = some ⟨v6, hi, lo⟩ := by rw [hPF2.out, if_pos hTs]
        rw [hTs] at htx
        clear hPF2 hT
        replace hTs := hide hTs
        go_wp2_with fail
        refine htx.out.mono ?_
        rintro e w5 ⟨rfl, hb5⟩
        have hga5 := blk_below hb5 (by omega) hga.out
        have hr5 := blk_below hb5 (by omega) hr.out
        have hB5 := hBc.out.trans (hb5.mono hBc.out.size)
        have hz5 := hb5.size
        clear hb5 htx hga hr hBc hcg
        replace hga5 := hide hga5
        replace hr5 := hide hr5
        replace hB5 := hide hB5
        go_upto_region 8 with fail
        apply wp_region_lit
        refine wpl_ld rfl 24 (.tmp 4) rfl gg rfl _ _ hga5.out Tryd.underlying24 rfl (by kernel_rfl) ?_
        refine wpl_st rfl 24 (.tmp 2) (.tmp 31) rfl (w.heap.size) 0 rfl (#[.bool v6, .int .u64 (hi : Int), .int .u64 (lo : Int)]) rfl hr5.out (by simp) (by kernel_rfl) (adr_one _ _ _) fun w9 hg9 g9 => ?_
        rw [putA_whole _ _ (by rfl)] at hg9
        have hb9 : Below (w.heap.size) w w9 := (hB5.out).trans (below_grown g9 (by have := (hB5.out).size; omega) (Nat.le_refl _))
        have hld : (loadVar 24 ⟨w.heap.size, 0, none⟩).run Tryd.prog w9 = .ok (.agg (#[.bool v6, .int .u64 (hi : Int), .int .u64 (lo : Int)])) w9 := by
          simpa using run_loadVar_mid w9 (w.heap.size) 0 24 (#[.bool v6, .int .u64 (hi : Int), .int .u64 (lo : Int)]).toList _ (blk_range hg9) Tryd.underlying24 rfl (by kernel_rfl)
        clear hg9 g9
        replace hld := hide hld
        replace hb9 := hide hb9
        iterate 1 (refine wpList_plain rfl fun K hK => ?_; go_simp; refine hK _ _ ?_; clear hK K)
        refine wpList_nil ?_
        go_simp
        go_wp2_with fail
        exact bodyPost_ret (v := .tuple #[.agg #[.bool v6, .int .u64 (hi : Int), .int .u64 (lo : Int)], .int .i64 0]) (by simp [results, Tryd.results11, asAddr, hld.out, Result.andThen]) rfl ⟨rfl, hb9.out⟩
      · obtain rfl : PF = none := by rw [hPF2.out, if_neg hTs]
        have tq : ((str T).toList == (str s).toList) = false := by rw [str_toList, str_toList]; simpa using hTs
        clear hPF2 hT
        replace hTs := hide hTs
        go_wp2_with fail
        refine htx.out.mono ?_
        rintro e w5 ⟨rfl, hb5⟩
        have hga5 := blk_below hb5 (by omega) hga.out
        have hr5 := blk_below hb5 (by omega) hr.out
        have hB5 := hBc.out.trans (hb5.mono hBc.out.size)
        have hz5 := hb5.size
        clear hb5 htx hga hr hBc hcg
        replace hga5 := hide hga5
        replace hr5 := hide hr5
        replace hB5 := hide hB5
        go_upto_region 7 with fail
        apply wp_region_lit
        iterate 1 (refine wpList_plain rfl fun K hK => ?_; go_simp; refine hK _ _ ?_; clear hK K)
        refine wpl_st rfl 24 (.tmp 2) (.tmp 30) rfl (w.heap.size) 0 rfl (#[.bool false, .int .u64 0, .int .u64 0]) rfl hr5.out (by simp) (by kernel_rfl) (adr_one _ _ _) fun w9 hg9 g9 => ?_
        rw [putA_whole _ _ (by rfl)] at hg9
        have hb9 : Below (w.heap.size) w w9 := (hB5.out).trans (below_grown g9 (by have := (hB5.out).size; omega) (Nat.le_refl _))
        have hld : (loadVar 24 ⟨w.heap.size, 0, none⟩).run Tryd.prog w9 = .ok (.agg (#[.bool false, .int .u64 0, .int .u64 0])) w9 := by
          simpa using run_loadVar_mid w9 (w.heap.size) 0 24 (#[.bool false, .int .u64 0, .int .u64 0]).toList _ (blk_range hg9) Tryd.underlying24 rfl (by kernel_rfl)
        clear hg9 g9
        replace hld := hide hld
        replace hb9 := hide hb9
        iterate 1 (refine wpList_plain rfl fun K hK => ?_; go_simp; refine hK _ _ ?_; clear hK K)
        refine wpList_nil ?_
        go_simp
        go_wp2_with fail
        exact bodyPost_ret (v := .tuple #[.agg #[.bool false, .int .u64 0, .int .u64 0], .int .i64 18]) (by simp [results, Tryd.results11, asAddr, hld.out, Result.andThen]) rfl ⟨rfl, hb9.out⟩
end Addr05
end Go.Proofs.YtccmbnaakdffaaaDoor
/- addr: V4, V6, Bits; Compare, and the law's less. No condition. -/
namespace Go.Proofs.YtccmbnaakdffaaaDoor
open Go.RowKit Go.ChangeShapes Go.WideShapes Go.ChangeAt Go.Deep
namespace Addr05
set_option maxRecDepth 20000 in
set_option maxHeartbeats 8000000 in
theorem V4_any (n : Nat) (hn : n < 4294967296) (w : World) :
    Calls Tryd.prog 19 #[.int .u32 (n : Int)] w fun e w' => e = .returned (.agg #[.bool false, .int .u64 0, .int .u64 (n : Int)]) ∧ Below w.heap.size w w' := by
  have wn : IntKind.u64.wrap (n : Int) = (n : Int) := wrapsu64 _ (by omega) (by omega)
  have hB : Below w.heap.size w (w.alloc (.cells #[.bool false, .int .u64 0, .int .u64 0] 24)) := (Below.refl _ _).alloc (Nat.le_refl _) _
  have hg : (w.alloc (.cells #[.bool false, .int .u64 0, .int .u64 0] 24)).heap[w.heap.size]? = some (.cells #[.bool false, .int .u64 0, .int .u64 0] 24 (0, 0)) := blk_new _ _ _
  replace hB := hide hB
  replace hg := hide hg
  go_enter Tryd.func19, Tryd.ntmps19
  go_upto_region 1 with fail
  apply wp_region_lit
  iterate 3 (refine wpList_plain rfl fun K hK => ?_; go_simp; refine hK _ _ ?_; clear hK K)
  refine wpl_st rfl 24 (.tmp 2) (.tmp 5) rfl (w.heap.size) 0 rfl (#[.bool false, .int .u64 0, .int .u64 (n : Int)]) rfl hg.out (by simp) (by kernel_rfl) (adr_one _ _ _) fun w9 hg9 g9 => ?_
  rw [putA_whole _ _ (by rfl)] at hg9
  have hb9 : Below (w.heap.size) w w9 := (hB.out).trans (below_grown g9 (by have := (hB.out).size; omega) (Nat.le_refl _))
  have hld : (loadVar 24 ⟨w.heap.size, 0, none⟩).run Tryd.prog w9 = .ok (.agg (#[.bool false, .int .u64 0, .int .u64 (n : Int)])) w9 := by
    simpa using run_loadVar_mid w9 (w.heap.size) 0 24 (#[.bool false, .int .u64 0, .int .u64 (n : Int)]).toList _ (blk_range hg9) Tryd.underlying24 rfl (by kernel_rfl)
  clear hg9 g9
  replace hld := hide hld
  replace hb9 := hide hb9
  refine wpList_nil ?_
  go_simp
  go_wp2_with fail
  exact bodyPost_ret (v := .agg #[.bool false, .int .u64 0, .int .u64 (n : Int)]) (by simp [results, Tryd.results19, asAddr, hld.out, Result.andThen]) rfl ⟨rfl, hb9.out⟩
set_option maxRecDepth 20000 in
set_option maxHeartbeats 8000000 in
theorem V6_any (hi lo : Nat) (w : World) :
    Calls Tryd.prog 20 #[.int .u64 (hi : Int), .int .u64 (lo : Int)] w fun e w' => e = .returned (.agg #[.bool true, .int .u64 (hi : Int), .int .u64 (lo : Int)]) ∧ Below w.heap.size w w' := by
  have hB : Below w.heap.size w (w.alloc (.cells #[.bool false, .int .u64 0, .int .u64 0] 24)) := (Below.refl _ _).alloc (Nat.le_refl _) _
  have hg : (w.alloc (.cells #[.bool false, .int .u64 0, .int .u64 0] 24)).heap[w.heap.size]? = some (.cells #[.bool false, .int .u64 0, .int .u64 0] 24 (0, 0)) := blk_new _ _ _
  replace hB := hide hB
  replace hg := hide hg
  go_enter Tryd.func20, Tryd.ntmps20
  go_upto_region 1 with fail
  apply wp_region_lit
  iterate 3 (refine wpList_plain rfl fun K hK => ?_; go_simp; refine hK _ _ ?_; clear hK K)
  refine wpl_st rfl 24 (.tmp 4) (.tmp 7) rfl (w.heap.size) 0 rfl (#[.bool true, .int .u64 (hi : Int), .int .u64 (lo : Int)]) rfl hg.out (by simp) (by kernel_rfl) (adr_one _ _ _) fun w9 hg9 g9 => ?_
  rw [putA_whole _ _ (by rfl)] at hg9
  have hb9 : Below (w.heap.size) w w9 := (hB.out).trans (below_grown g9 (by have := (hB.out).size; omega) (Nat.le_refl _))
  have hld : (loadVar 24 ⟨w.heap.size, 0, none⟩).run Tryd.prog w9 = .ok (.agg (#[.bool true, .int .u64 (hi : Int), .int .u64 (lo : Int)])) w9 := by
    simpa using run_loadVar_mid w9 (w.heap.size) 0 24 (#[.bool true, .int .u64 (hi : Int), .int .u64 (lo : Int)]).toList _ (blk_range hg9) Tryd.underlying24 rfl (by kernel_rfl)
  clear hg9 g9
  replace hld := hide hld
  replace hb9 := hide hb9
  refine wpList_nil ?_
  go_simp
  go_wp2_with fail
  exact bodyPost_ret (v := .agg #[.bool true, .int .u64 (hi : Int), .int .u64 (lo : Int)]) (by simp [results, Tryd.results20, asAddr, hld.out, Result.andThen]) rfl ⟨rfl, hb9.out⟩
theorem Bits_any (v6 : Bool) (hi lo : Int) (w : World) :
    Calls Tryd.prog 22 #[.agg #[.bool v6, .int .u64 hi, .int .u64 lo]] w fun e w' => e = .returned (.int .i64 (if v6 then 128 else 32)) ∧ Below w.heap.size w w' := by
  cases v6
  · go_enter Tryd.func22, Tryd.ntmps22
    go_wp2_with fail
    go_ret
    exact ⟨rfl, (Below.refl _ _).alloc (Nat.le_refl _) _⟩
  · go_enter Tryd.func22, Tryd.ntmps22
    go_wp2_with fail
    go_ret
    exact ⟨rfl, (Below.refl _ _).alloc (Nat.le_refl _) _⟩
def lessB (a b : Adr) : Bool := if a.v6 = b.v6 then (decide (a.hi < b.hi) || (decide (a.hi = b.hi) && decide (a.lo < b.lo))) else b.v6
def cmpI (a b : Adr) : Int := if a.v6 = b.v6 ∧ a.hi = b.hi ∧ a.lo = b.lo then 0 else if lessB a b then -1 else 1
theorem below2 (w : World) (o o' : Obj) : Below w.heap.size w ((w.alloc o).alloc o') := ((Below.refl _ _).alloc (Nat.le_refl _) _).alloc (by simp) _
set_option maxRecDepth 20000 in
set_option maxHeartbeats 8000000 in
theorem less_any (a b : Adr) (w : World) :
    Calls Tryd.prog 17 #[.agg #[.bool a.v6, .int .u64 (a.hi : Int), .int .u64 (a.lo : Int)], .agg #[.bool b.v6, .int .u64 (b.hi : Int), .int .u64 (b.lo : Int)]] w fun e w' => e = .returned (.bool (lessB a b)) ∧ Below w.heap.size w w' := by
  obtain ⟨v, h, l⟩ := a
  obtain ⟨v', h', l'⟩ := b
  unfold lessB
  dsimp only
  have t1 : decide ((h : Int) < (h' : Int)) = decide (h < h') := by rw [Bool.eq_iff_iff]; simp
  have t2 : ((h : Int) == (h' : Int)) = decide (h = h') := by rw [Bool.eq_iff_iff]; simp; omega
  have t3 : decide ((l : Int) < (l' : Int)) = decide (l < l') := by rw [Bool.eq_iff_iff]; simp
  obtain ⟨b1, hb1⟩ : ∃ x, decide (h < h') = x := ⟨_, rfl⟩
  obtain ⟨b2, hb2⟩ : ∃ x, decide (h = h') = x := ⟨_, rfl⟩
  obtain ⟨b3, hb3⟩ : ∃ x, decide (l < l') = x := ⟨_, rfl⟩
  rw [hb1] at t1 ⊢
  rw [hb2] at t2 ⊢
  rw [hb3] at t3 ⊢
  have hbel := below2 w (.cells #[.bool v, .int .u64 (h : Int), .int .u64 (l : Int)] 24) (.cells #[.bool v', .int .u64 (h' : Int), .int .u64 (l' : Int)] 24)
  replace hbel := hide hbel
  cases v <;> cases v' <;> cases b1 <;> cases b2 <;> (
    go_enter Tryd.func17, Tryd.ntmps17
    go_wp2_with fail
    go_ret
    exact ⟨rfl, hbel.out⟩)
set_option maxRecDepth 20000 in
set_option maxHeartbeats 8000000 in
theorem Compare_any (a b : Adr) (w : World) :
    Calls Tryd.prog 18 #[.agg #[.bool a.v6, .int .u64 (a.hi : Int), .int .u64 (a.lo : Int)], .agg #[.bool b.v6, .int .u64 (b.hi : Int), .int .u64 (b.lo : Int)]] w fun e w' => e = .returned (.int .i64 (cmpI a b)) ∧ Below w.heap.size w w' := by
  obtain ⟨v, h, l⟩ := a
  obtain ⟨v', h', l'⟩ := b
  have hbel := below2 w (.cells #[.bool v, .int .u64 (h : Int), .int .u64 (l : Int)] 24) (.cells #[.bool v', .int .u64 (h' : Int), .int .u64 (l' : Int)] 24)
  replace hbel := hide hbel
  have hne : h < h' → ¬ h = h' := fun h => by omega
  have hne' : h' < h → ¬ h = h' ∧ ¬ h < h' := fun h => ⟨by omega, by omega⟩
  have lne : l < l' → ¬ l = l' := fun h => by omega
  have lne' : l' < l → ¬ l = l' ∧ ¬ l < l' := fun h => ⟨by omega, by omega⟩
  have fin : ∀ v : Bool, Calls Tryd.prog 18 #[.agg #[.bool v, .int .u64 (h : Int), .int .u64 (l : Int)], .agg #[.bool v, .int .u64 (h' : Int), .int .u64 (l' : Int)]] w fun e w' => e = .returned (.int .i64 (cmpI ⟨v, h, l⟩ ⟨v, h', l'⟩)) ∧ Below w.heap.size w w' := by
    intro v
    have hbel := below2 w (.cells #[.bool v, .int .u64 (h : Int), .int .u64 (l : Int)] 24) (.cells #[.bool v, .int .u64 (h' : Int), .int .u64 (l' : Int)] 24)
    obtain ⟨R, hR⟩ : ∃ R, cmpI ⟨v, h, l⟩ ⟨v, h', l'⟩ = R := ⟨_, rfl⟩
    rw [hR]
    unfold cmpI lessB at hR
    simp only [true_and, if_true] at hR
    rcases Nat.lt_trichotomy h h' with hh | hh | hh
    · have n1 := hne hh
      rw [if_neg (by omega), if_pos (by simp [hh])] at hR
      subst hR
      clear hne hne' lne lne'
      replace hbel := hide hbel
      go_enter Tryd.func18, Tryd.ntmps18
      go_wp2_with fail
      go_ret
      exact ⟨rfl, hbel.out⟩
    · subst hh
      rcases Nat.lt_trichotomy l l' with hl | hl | hl
      · have n1 := lne hl
        rw [if_neg (by omega), if_pos (by simp [hl])] at hR
        subst hR
        clear hne hne' lne lne'
        replace hbel := hide hbel
        go_enter Tryd.func18, Tryd.ntmps18
        go_wp2_with fail
        go_ret
        exact ⟨rfl, hbel.out⟩
      · subst hl
        rw [if_pos ⟨rfl, rfl⟩] at hR
        subst hR
        clear hne hne' lne lne'
        replace hbel := hide hbel
        go_enter Tryd.func18, Tryd.ntmps18
        go_wp2_with fail
        go_ret
        exact ⟨rfl, hbel.out⟩
      · obtain ⟨n1, n2⟩ := lne' hl
        rw [if_neg (by omega), if_neg (by simp [n2])] at hR
        subst hR
        clear hne hne' lne lne' hl
        replace hbel := hide hbel
        go_enter Tryd.func18, Tryd.ntmps18
        go_wp2_with fail
        go_ret
        exact ⟨rfl, hbel.out⟩
    · obtain ⟨n1, n2⟩ := hne' hh
      rw [if_neg (by omega), if_neg (by simp [n1, n2])] at hR
      subst hR
      clear hne hne' lne lne' hh
      replace hbel := hide hbel
      go_enter Tryd.func18, Tryd.ntmps18
      go_wp2_with fail
      go_ret
      exact ⟨rfl, hbel.out⟩
  cases v <;> cases v'
  · exact fin false
  · clear fin hne hne' lne lne'
    go_enter Tryd.func18, Tryd.ntmps18
    go_wp2_with fail
    go_ret
    exact ⟨rfl, hbel.out⟩
  · clear fin hne hne' lne lne'
    go_enter Tryd.func18, Tryd.ntmps18
    go_wp2_with fail
    go_ret
    exact ⟨rfl, hbel.out⟩
  · exact fin true
end Addr05
end Go.Proofs.YtccmbnaakdffaaaDoor
/- addr: get: bytes as a number. Conditions: at most 2^40 bytes. -/
namespace Go.Proofs.YtccmbnaakdffaaaDoor
open Go.RowKit Go.ChangeShapes Go.WideShapes Go.ChangeAt Go.Deep
namespace Addr05
def getN (l : List UInt8) : Nat := l.foldl (fun n c => (n * 256 + c.toNat) % 18446744073709551616) 0
theorem getN_snoc (l : List UInt8) (k : Nat) (h : k < l.length) : getN (l.take (k + 1)) = (getN (l.take k) * 256 + (l.getD k 0).toNat) % 18446744073709551616 := by
  have e : l.take (k + 1) = l.take k ++ [l[k]] := by rw [List.take_add_one, List.getElem?_eq_getElem h]; rfl
  have e2 : l.getD k 0 = l[k] := by rw [List.getD_eq_getElem?_getD, List.getElem?_eq_getElem h]; rfl
  unfold getN
  rw [e, e2, List.foldl_append]
  rfl
theorem getN_lt (l : List UInt8) : getN l < 18446744073709551616 := by
  unfold getN
  rcases List.eq_nil_or_concat l with rfl | ⟨r, x, rfl⟩
  · decide
  · simp only [List.concat_eq_append, List.foldl_append, List.foldl_cons, List.foldl_nil]
    exact Nat.mod_lt _ (by omega)
set_option maxRecDepth 20000 in
set_option maxHeartbeats 8000000 in
theorem get_any (A : Option Addr) (n c : Nat) (xs : List UInt8) (w : World) (hx : IsB w w.heap.size A n xs) (hnm : n ≤ 1099511627776) :
    Calls Tryd.prog 51 #[.slice A n c] w fun e w' => e = .returned (.int .u64 (getN xs : Int)) ∧ w' = w := by
  have hl := hx.1
  replace hx := hide hx
  go_enter Tryd.func51, Tryd.ntmps51
  go_wp2_with fail
  go_loopw [3, 8] (fun nv kv wr => ∃ k : Nat, k ≤ n ∧ kv = .int .i64 (k : Int) ∧ nv = .int .u64 ((getN (xs.take k) : Nat) : Int) ∧ wr = w) (fun _ kv _ => n - (intOf kv).toNat)
  case atStart => exact ⟨0, by omega, rfl, rfl, rfl⟩
  case round =>
    obtain ⟨k, hk, rfl, rfl, rfl⟩ := hrel
    by_cases hkn : k < n
    · have i1 : (k : Int) < (n : Int) := by omega
      have i2 : (0 : Int) ≤ (k : Int) := by omega
      obtain ⟨b, off, y, rfl, hb, hy, hyl, hcy⟩ := hx.out.byte hkn
      have s1 := getN_snoc xs k (by omega)
      rw [hy] at s1
      have l1 := getN_lt (xs.take k)
      obtain ⟨g, hg⟩ : ∃ g, getN (xs.take k) = g := ⟨_, rfl⟩
      obtain ⟨g', hg'⟩ : ∃ g, getN (xs.take (k + 1)) = g := ⟨_, rfl⟩
      rw [hg, hg'] at s1
      rw [hg] at l1 ⊢
      have o1 := u64_or8 g y (by omega) l1
      have wp : IntKind.u64.wrap ((g : Int) * 256) = ((g * 256 % 18446744073709551616 : Nat) : Int) := by rw [IntKind.wrap_u64]; omega
      have wy : IntKind.u64.wrap (y : Int) = (y : Int) := wrapsu64 _ (by omega) (by omega)
      have e1 : g * 256 % 18446744073709551616 + y = g' := by omega
      rw [e1] at o1
      obtain ⟨p, hp⟩ : ∃ p, g * 256 % 18446744073709551616 = p := ⟨_, rfl⟩
      rw [hp] at o1 wp
      clear s1 e1
      replace hp := hide hp
      replace hg := hide hg
      replace hg' := hide hg'
      replace hy := hide hy
      go_wp2_with fail
      refine ⟨⟨k + 1, by omega, by first | rfl | go_num, by rw [hg'.out], by first | rfl | trivial⟩, by simp only [intOf]; omega⟩
    · have e : k = n := by omega
      have i1 : ((k : Int) < (n : Int)) = False := by rw [eq_iff_iff, iff_false]; omega
      have et : xs.take k = xs := List.take_of_length_le (by omega)
      rw [et]
      replace et := hide et
      replace e := hide e
      go_wp2_with fail
      go_ret
      exact ⟨rfl, by first | rfl | trivial⟩
end Addr05
end Go.Proofs.YtccmbnaakdffaaaDoor
/- addr: Of, Bit: an address out of bytes; a bit of an address. Conditions: at most 2^40 bytes; numbers of 64 bits. -/
namespace Go.Proofs.YtccmbnaakdffaaaDoor
open Go.RowKit Go.ChangeShapes Go.WideShapes Go.ChangeAt Go.Deep
/-- A struct is stored, at place o of a block: one operation. -/
theorem wp_st {P : Program} {op : Oper} {a : Act} {w : World} {K : Act → World → Prop} {Q : Exit → Act → World → Prop} (ty : TypeId) (x y : Operand) (ho : op.op = .store ty x y) (g o : Nat) (hx : a.eval x = .pointer (some ⟨g, o, none⟩)) (vs : Array Value) (hy : a.eval y = .agg vs)
    {cs : Array Value} {t : TypeId} (hc : w.heap[g]? = some (.cells cs t (0, 0))) (hn : o + vs.size ≤ cs.size) (hi : (P.info? ty).map (·.size) = some vs.size) (h1 : vs.all (·.oneCell') = true)
    (h : ∀ w', w'.heap[g]? = some (.cells (putA cs o vs.toList) t (0, 0)) → w.grownBy w' (some g) → K (a.put op.dst undef) w') : op.wp P a w K Q := by
  obtain ⟨w', e, h2, h3⟩ := stored_at (o := o) hc vs.toList (by simpa using hn)
  refine wp_store_mid ty x y ho g o vs hx hy (blk_there hc hn) hi h1 ?_
  rw [e]
  exact h w' h2 h3
namespace Addr05
theorem get_bel (A : Option Addr) (n c : Nat) (xs : List UInt8) (w : World) (hx : IsB w w.heap.size A n xs) (hnm : n ≤ 1099511627776) :
    Calls Tryd.prog 51 #[.slice A n c] w fun e w' => e = .returned (.int .u64 (getN xs : Int)) ∧ Below w.heap.size w w' :=
  (get_any A n c xs w hx hnm).mono fun _ _ h => ⟨h.1, h.2 ▸ Below.refl _ _⟩
def ofR (xs : List UInt8) : Option Adr := if xs.length = 4 then some ⟨false, 0, getN xs % 4294967296⟩ else if xs.length = 16 then some ⟨true, getN (xs.take 8), getN (xs.drop 8)⟩ else none
set_option maxRecDepth 20000 in
set_option maxHeartbeats 8000000 in
theorem Of_any (A : Option Addr) (n c : Nat) (xs : List UInt8) (w : World) (hx : IsB w w.heap.size A n xs) (hnc : n ≤ c) (hcm : c ≤ maxLen) (hnm : n ≤ 1099511627776) :
    Calls Tryd.prog 23 #[.slice A n c] w fun e w' => e = .returned (.tuple #[.agg (adrP (ofR xs)), .int .i64 (if (ofR xs).isSome then 0 else 12)]) ∧ Below w.heap.size w w' := by
  obtain ⟨w1, hw1⟩ : ∃ w1, w.alloc (.cells #[.bool false, .int .u64 0, .int .u64 0] 24) = w1 := ⟨_, rfl⟩
  have hB : Below w.heap.size w w1 := hw1 ▸ (Below.refl _ _).alloc (Nat.le_refl _) _
  have hg : w1.heap[w.heap.size]? = some (.cells #[.bool false, .int .u64 0, .int .u64 0] 24 (0, 0)) := hw1 ▸ blk_new _ _ _
  have hzw : w.heap.size < w1.heap.size := by rw [← hw1]; simp
  have hx1 := hx.on hB
  have hl := hx.1
  unfold ofR
  rw [hl]
  by_cases h4 : n = 4
  · subst h4
    rw [if_pos rfl]
    have hG := get_any A 4 c xs w1 hx1 (by omega)
    have hlt := getN_lt xs
    obtain ⟨g, hgn⟩ : ∃ g, getN xs = g := ⟨_, rfl⟩
    rw [hgn] at hG hlt ⊢
    have wg : IntKind.u32.wrap (g : Int) = ((g % 4294967296 : Nat) : Int) := by rw [IntKind.wrap_u32]; omega
    have hV := V4_any (g % 4294967296) (by omega) w1
    obtain ⟨q, hq⟩ : ∃ q, g % 4294967296 = q := ⟨_, rfl⟩
    rw [hq] at hV wg ⊢
    clear hx hx1
    replace hB := hide hB
    replace hg := hide hg
    replace hG := hide hG
    replace hgn := hide hgn
    replace hV := hide hV
    replace hq := hide hq
    go_enter Tryd.func23, Tryd.ntmps23
    go_upto_region 3 with fail
    clear hw1
    apply wp_region_lit
    iterate 1 (refine wpList_plain rfl fun K hK => ?_; go_simp; refine hK _ _ ?_; clear hK K)
    refine wpList_plain rfl fun K hK => ?_
    go_simp
    refine (hG.out).mono ?_
    rintro e w2 ⟨rfl, rfl⟩
    go_simp
    refine hK _ _ ?_
    clear hK K
    iterate 1 (refine wpList_plain rfl fun K hK => ?_; go_simp; refine hK _ _ ?_; clear hK K)
    refine wpList_plain rfl fun K hK => ?_
    go_simp
    refine (hV.out).mono ?_
    rintro e w3 ⟨rfl, hb3⟩
    have hg3 := blk_below hb3 hzw hg.out
    have hB3 := hB.out.trans (hb3.mono hB.out.size)
    clear hb3 hG hV hg hB
    replace hg3 := hide hg3
    replace hB3 := hide hB3
    go_simp
    refine hK _ _ ?_
    clear hK K
    refine wpl_st rfl 24 (.tmp 2) (.tmp 11) rfl (w.heap.size) 0 rfl (#[.bool false, .int .u64 0, .int .u64 (q : Int)]) rfl hg3.out (by simp) (by kernel_rfl) (adr_one _ _ _) fun w9 hg9 g9 => ?_
    rw [putA_whole _ _ (by rfl)] at hg9
    have hb9 : Below (w.heap.size) w w9 := (hB3.out).trans (below_grown g9 (by have := (hB3.out).size; omega) (Nat.le_refl _))
    have hld : (loadVar 24 ⟨w.heap.size, 0, none⟩).run Tryd.prog w9 = .ok (.agg (#[.bool false, .int .u64 0, .int .u64 (q : Int)])) w9 := by
      simpa using run_loadVar_mid w9 (w.heap.size) 0 24 (#[.bool false, .int .u64 0, .int .u64 (q : Int)]).toList _ (blk_range hg9) Tryd.underlying24 rfl (by kernel_rfl)
    clear hg9 g9
    replace hld := hide hld
    replace hb9 := hide hb9
    iterate 1 (refine wpList_plain rfl fun K hK => ?_; go_simp; refine hK _ _ ?_; clear hK K)
    refine wpList_nil ?_
    go_simp
    go_wp2_with fail
    exact bodyPost_ret (v := .tuple #[.agg #[.bool false, .int .u64 0, .int .u64 (q : Int)], .int .i64 0]) (by simp [results, Tryd.results23, asAddr, hld.out, Result.andThen]) rfl ⟨rfl, hb9.out⟩
  rw [if_neg h4]
  by_cases h16 : n = 16
  · subst h16
    rw [if_pos rfl]
    obtain ⟨b, off, rfl, hb, -⟩ := hx1.ptr (by omega)
    have q1 := fun l : Later w1 => get_bel (some ⟨b, off, none⟩) 8 c (xs.take 8) l.w ((hx1.on l.hb).take (by omega)) (by omega)
    have hxd : IsB w1 w1.heap.size (some ⟨b, off + 8, none⟩) 8 (xs.drop 8) := by
      refine ⟨by rw [List.length_drop]; omega, fun h => ?_⟩
      obtain ⟨b', off', e, hb', hc⟩ := hx1.2 (by omega)
      cases e
      refine ⟨b, off + 8, rfl, hb', fun j hj => ?_⟩
      have hj' : j < 8 := by rw [List.length_drop, hl] at hj; omega
      rw [Nat.add_assoc, hc (8 + j) (by omega)]
      simp
    have q2 := fun l : Later w1 => get_bel (some ⟨b, off + 8, none⟩) 8 (c - 8) (xs.drop 8) l.w (hxd.on l.hb) (by omega)
    obtain ⟨g1, hg1⟩ : ∃ g, getN (xs.take 8) = g := ⟨_, rfl⟩
    obtain ⟨g2, hg2⟩ : ∃ g, getN (xs.drop 8) = g := ⟨_, rfl⟩
    rw [hg1] at q1 ⊢
    rw [hg2] at q2 ⊢
    have q3 := fun l : Later w1 => V6_any g1 g2 l.w
    have i1 : (8 : Int) ≤ (c : Int) := by omega
    have i2 : ¬ c = 8 := by omega
    have i3 : ¬ 8 = c := by omega
    clear hx hx1 hxd
    replace hB := hide hB
    replace hg := hide hg
    replace hg1 := hide hg1
    replace hg2 := hide hg2
    replace q1 := hide q1
    replace q2 := hide q2
    replace q3 := hide q3
    go_enter Tryd.func23, Tryd.ntmps23
    go_upto_region 5 with fail
    clear hw1
    refine wp_region_L (by as_aux_lemma => kernel_rfl) ?_
    refine wpE_seg 0 7 (fuel := 2) (by as_aux_lemma => kernel_rfl) (fun d _ _ _ _ h => by cases d <;> exact h) (by as_aux_lemma => kernel_rfl) (by as_aux_lemma => kernel_rfl) ?_
    simp only [List.drop_zero, List.take_succ_cons, List.take_zero]
    iterate 2 (refine wpQE_step (fun K hK => ?_); go_simp; refine hK _ ?_; clear hK K)
    (refine wpQE_step (fun K hK => ?_); go_simp; apply Exists.intro; refine ⟨fun l => ?_, hK _ ?_⟩; (go_at_call 51; refine (q1.out l).mono ?_; rintro e w' ⟨rfl, hb⟩; exact ⟨rfl, hb⟩); clear hK K)
    iterate 2 (refine wpQE_step (fun K hK => ?_); go_simp; refine hK _ ?_; clear hK K)
    (refine wpQE_step (fun K hK => ?_); go_simp; apply Exists.intro; refine ⟨fun l => ?_, hK _ ?_⟩; (go_at_call 51; refine (q2.out l).mono ?_; rintro e w' ⟨rfl, hb⟩; exact ⟨rfl, hb⟩); clear hK K)
    (refine wpQE_step (fun K hK => ?_); go_simp; apply Exists.intro; refine ⟨fun l => ?_, hK _ ?_⟩; (go_at_call 20; refine (q3.out l).mono ?_; rintro e w' ⟨rfl, hb⟩; exact ⟨rfl, hb⟩); clear hK K)
    refine wpQE_nil ?_
    refine wpE_end (by as_aux_lemma => kernel_rfl) (fun l2 => ?_)
    have hgl := blk_below l2.hb hzw hg.out
    have hBl := hB.out.trans (l2.hb.mono hB.out.size)
    replace hgl := hide hgl
    replace hBl := hide hBl
    refine wpT_step 7 rfl (by as_aux_lemma => kernel_rfl) (fun K hK => ?_)
    rw [if_pos (by rfl)]
    refine wp_st 24 (.tmp 2) (.tmp 20) rfl w.heap.size 0 rfl #[.bool true, .int .u64 (g1 : Int), .int .u64 (g2 : Int)] rfl hgl.out (by simp) (by kernel_rfl) (adr_one _ _ _) fun w9 hg9 g9 => ?_
    rw [putA_whole _ _ (by rfl)] at hg9
    have hb9 : Below w.heap.size w w9 := hBl.out.trans (below_grown g9 (by have := hBl.out.size; omega) (Nat.le_refl _))
    have hld : (loadVar 24 ⟨w.heap.size, 0, none⟩).run Tryd.prog w9 = .ok (.agg #[.bool true, .int .u64 (g1 : Int), .int .u64 (g2 : Int)]) w9 := by
      simpa using run_loadVar_mid w9 w.heap.size 0 24 [.bool true, .int .u64 (g1 : Int), .int .u64 (g2 : Int)] _ (blk_range hg9) Tryd.underlying24 rfl (by kernel_rfl)
    clear hg9 g9 hgl hBl
    replace hld := hide hld
    replace hb9 := hide hb9
    refine hK _ _ ?_
    clear hK K
    refine wpT_step 8 rfl (by as_aux_lemma => kernel_rfl) (fun K hK => ?_)
    go_simp
    refine hK _ _ ?_
    clear hK K
    refine wpT_done (by as_aux_lemma => kernel_rfl) ?_ 0
    go_wp2_with fail
    exact bodyPost_ret (v := .tuple #[.agg #[.bool true, .int .u64 (g1 : Int), .int .u64 (g2 : Int)], .int .i64 0]) (by simp [results, Tryd.results23, asAddr, hld.out, Result.andThen]) rfl ⟨rfl, hb9.out⟩
  · rw [if_neg h16]
    have t1 : ((n : Int) == 4) = false := by rw [beq_eq_false_iff_ne]; omega
    have t2 : ((n : Int) == 16) = false := by rw [beq_eq_false_iff_ne]; omega
    clear hx hx1
    replace hB := hide hB
    replace hg := hide hg
    replace h4 := hide h4
    replace h16 := hide h16
    go_enter Tryd.func23, Tryd.ntmps23
    go_upto_region 6 with fail
    clear hw1
    apply wp_region_lit
    iterate 1 (refine wpList_plain rfl fun K hK => ?_; go_simp; refine hK _ _ ?_; clear hK K)
    refine wpl_st rfl 24 (.tmp 2) (.tmp 21) rfl (w.heap.size) 0 rfl (#[.bool false, .int .u64 0, .int .u64 0]) rfl hg.out (by simp) (by kernel_rfl) (adr_one _ _ _) fun w9 hg9 g9 => ?_
    rw [putA_whole _ _ (by rfl)] at hg9
    have hb9 : Below (w.heap.size) w w9 := (hB.out).trans (below_grown g9 (by have := (hB.out).size; omega) (Nat.le_refl _))
    have hld : (loadVar 24 ⟨w.heap.size, 0, none⟩).run Tryd.prog w9 = .ok (.agg (#[.bool false, .int .u64 0, .int .u64 0])) w9 := by
      simpa using run_loadVar_mid w9 (w.heap.size) 0 24 (#[.bool false, .int .u64 0, .int .u64 0]).toList _ (blk_range hg9) Tryd.underlying24 rfl (by kernel_rfl)
    clear hg9 g9
    replace hld := hide hld
    replace hb9 := hide hb9
    iterate 1 (refine wpList_plain rfl fun K hK => ?_; go_simp; refine hK _ _ ?_; clear hK K)
    refine wpList_nil ?_
    go_simp
    go_wp2_with fail
    exact bodyPost_ret (v := .tuple #[.agg #[.bool false, .int .u64 0, .int .u64 0], .int .i64 12]) (by simp [results, Tryd.results23, asAddr, hld.out, Result.andThen]) rfl ⟨rfl, hb9.out⟩
theorem u64_and1 (n : Nat) (hn : n < 18446744073709551616) (s : Nat) : bits .and .u64 ((n : Int) / 2 ^ s) 1 = ((n / 2 ^ s % 2 : Nat) : Int) := by
  have e : (n : Int) / 2 ^ s = ((n / 2 ^ s : Nat) : Int) := by push_cast; rfl
  have e2 : n / 2 ^ s ≤ n := Nat.div_le_self _ _
  rw [e]
  obtain ⟨q, hq⟩ : ∃ q, n / 2 ^ s = q := ⟨_, rfl⟩
  rw [hq] at e2 ⊢
  exact bits_mask .u64 64 (by decide) wrapsu64 1 (by decide) _ (by omega) (by omega)
def bitI (a : Adr) (i : Int) : Int := if 0 ≤ i then (a.bit i.toNat : Int) else 0
set_option maxRecDepth 20000 in
set_option maxHeartbeats 8000000 in
theorem Bit_any (a : Adr) (ho : a.ok) (i : Int) (h1 : -9223372036854775808 ≤ i) (h2 : i ≤ 9223372036854775807) (w : World) :
    Calls Tryd.prog 24 #[.agg #[.bool a.v6, .int .u64 (a.hi : Int), .int .u64 (a.lo : Int)], .int .i64 i] w fun e w' => e = .returned (.int .i64 (bitI a i)) ∧ Below w.heap.size w w' := by
  obtain ⟨v, hi, lo⟩ := a
  obtain ⟨hhi, hlo⟩ := ho
  dsimp only at hhi hlo ⊢
  obtain ⟨w1, hw1⟩ : ∃ w1, w.alloc (.cells #[.bool v, .int .u64 (hi : Int), .int .u64 (lo : Int)] 24) = w1 := ⟨_, rfl⟩
  have hB : Below w.heap.size w w1 := hw1 ▸ (Below.refl _ _).alloc (Nat.le_refl _) _
  have hg : w1.heap[w.heap.size]? = some (.cells #[.bool v, .int .u64 (hi : Int), .int .u64 (lo : Int)] 24 (0, 0)) := hw1 ▸ blk_new _ _ _
  have hzw : w.heap.size < w1.heap.size := by rw [← hw1]; simp
  by_cases hn : i < 0
  · have t1 : decide (i < 0) = true := by rw [decide_eq_true_eq]; omega
    have hR : bitI ⟨v, hi, lo⟩ i = 0 := by unfold bitI; rw [if_neg (by omega)]
    rw [hR]
    clear hR
    replace hg := hide hg
    replace hB := hide hB
    replace hn := hide hn
    go_enter Tryd.func24, Tryd.ntmps24
    go_wp2_with fail
    go_ret
    exact ⟨rfl, hB.out⟩
  have t1 : decide (i < 0) = false := by rw [decide_eq_false_iff_not]; omega
  obtain ⟨k, rfl⟩ : ∃ k : Nat, i = (k : Int) := ⟨i.toNat, by omega⟩
  have hbits := Bits_any v (hi : Int) (lo : Int) w1
  have hcg := blk_cell hg
  have fin : ∀ W : Int, (if v = true then (128 : Int) else 32) = W → (∀ w2 : World, Below w1.heap.size w1 w2 → True) := fun _ _ _ _ => trivial
  clear fin
  cases v
  · have hbits' : Calls Tryd.prog 22 #[.agg #[.bool false, .int .u64 (hi : Int), .int .u64 (lo : Int)]] w1 fun e w' => e = .returned (.int .i64 32) ∧ Below w1.heap.size w1 w' := hbits
    clear hbits
    by_cases hk : k < 32
    · have t2 : decide ((32 : Int) ≤ (k : Int)) = false := by rw [decide_eq_false_iff_not]; omega
      have i1 : (0 : Int) ≤ (k : Int) := by omega
      obtain ⟨s, hs⟩ : ∃ s, 31 - k = s := ⟨_, rfl⟩
      have ws : IntKind.i64.wrap (31 - (k : Int)) = (s : Int) := by rw [wraps62 _ (by omega) (by omega)]; omega
      have i2 : (0 : Int) ≤ (s : Int) := by omega
      have min64 : min s 64 = s := by omega
      have ha := u64_and1 lo hlo s
      obtain ⟨y, hy⟩ : ∃ y, lo / 2 ^ s % 2 = y := ⟨_, rfl⟩
      rw [hy] at ha
      have wy : IntKind.i64.wrap (y : Int) = (y : Int) := wraps62 _ (by omega) (by omega)
      have hR : bitI ⟨false, hi, lo⟩ (k : Int) = (y : Int) := by
        unfold bitI Adr.bit Adr.w
        simp only [Int.toNat_natCast, i1, if_true, Bool.false_eq_true, if_false, show k < 32 from hk]
        rw [hs, hy]
      rw [hR]
      clear hR
      replace hs := hide hs
      replace hy := hide hy
      replace hg := hide hg
      replace hB := hide hB
      replace hk := hide hk
      replace hbits' := hide hbits'
      go_enter Tryd.func24, Tryd.ntmps24
      go_wp2_with fail
      clear hw1
      refine hbits'.out.mono ?_
      rintro e w2 ⟨rfl, hb2⟩
      have hg2 := blk_below hb2 hzw hg.out
      have hB2 := hB.out.trans (hb2.mono hB.out.size)
      clear hcg hg hB hb2 hbits'
      have hcg := blk_cell hg2
      replace hg2 := hide hg2
      replace hB2 := hide hB2
      go_wp2_with fail
      go_ret
      exact ⟨rfl, hB2.out⟩
    · have t2 : decide ((32 : Int) ≤ (k : Int)) = true := by rw [decide_eq_true_eq]; omega
      have hR : bitI ⟨false, hi, lo⟩ (k : Int) = 0 := by
        unfold bitI Adr.bit Adr.w
        rw [if_pos (by omega), Int.toNat_natCast, if_neg (by simpa using hk)]
        rfl
      rw [hR]
      clear hR
      replace hk := hide hk
      replace hbits' := hide hbits'
      replace hg := hide hg
      replace hB := hide hB
      go_enter Tryd.func24, Tryd.ntmps24
      go_wp2_with fail
      clear hw1
      refine hbits'.out.mono ?_
      rintro e w2 ⟨rfl, hb2⟩
      have hB2 := hB.out.trans (hb2.mono hB.out.size)
      clear hcg hg hB hb2 hbits'
      replace hB2 := hide hB2
      go_wp2_with fail
      go_ret
      exact ⟨rfl, hB2.out⟩
  · have hbits' : Calls Tryd.prog 22 #[.agg #[.bool true, .int .u64 (hi : Int), .int .u64 (lo : Int)]] w1 fun e w' => e = .returned (.int .i64 128) ∧ Below w1.heap.size w1 w' := hbits
    clear hbits
    by_cases hk : k < 128
    · have t2 : decide ((128 : Int) ≤ (k : Int)) = false := by rw [decide_eq_false_iff_not]; omega
      by_cases hk2 : k < 64
      · have t3 : decide ((k : Int) < 64) = true := by rw [decide_eq_true_eq]; omega
        have i1 : (0 : Int) ≤ (k : Int) := by omega
        obtain ⟨s, hs⟩ : ∃ s, 63 - k = s := ⟨_, rfl⟩
        have ws : IntKind.i64.wrap (63 - (k : Int)) = (s : Int) := by rw [wraps62 _ (by omega) (by omega)]; omega
        have i2 : (0 : Int) ≤ (s : Int) := by omega
        have min64 : min s 64 = s := by omega
        have ha := u64_and1 hi hhi s
        obtain ⟨y, hy⟩ : ∃ y, hi / 2 ^ s % 2 = y := ⟨_, rfl⟩
        rw [hy] at ha
        have wy : IntKind.i64.wrap (y : Int) = (y : Int) := wraps62 _ (by omega) (by omega)
        have hR : bitI ⟨true, hi, lo⟩ (k : Int) = (y : Int) := by
          unfold bitI Adr.bit Adr.w
          simp only [Int.toNat_natCast, i1, if_true, Bool.false_eq_true, if_false, show k < 128 from hk, hk2]
          rw [hs, hy]
        rw [hR]
        clear hR
        replace hs := hide hs
        replace hy := hide hy
        replace hg := hide hg
        replace hB := hide hB
        replace hk := hide hk
        replace hk2 := hide hk2
        replace hbits' := hide hbits'
        go_enter Tryd.func24, Tryd.ntmps24
        go_wp2_with fail
        clear hw1
        refine hbits'.out.mono ?_
        rintro e w2 ⟨rfl, hb2⟩
        have hg2 := blk_below hb2 hzw hg.out
        have hB2 := hB.out.trans (hb2.mono hB.out.size)
        clear hcg hg hB hb2 hbits'
        have hcg := blk_cell hg2
        replace hg2 := hide hg2
        replace hB2 := hide hB2
        go_wp2_with fail
        go_ret
        exact ⟨rfl, hB2.out⟩
      · have t3 : decide ((k : Int) < 64) = false := by rw [decide_eq_false_iff_not]; omega
        have i1 : (0 : Int) ≤ (k : Int) := by omega
        obtain ⟨s, hs⟩ : ∃ s, 127 - k = s := ⟨_, rfl⟩
        have ws : IntKind.i64.wrap (127 - (k : Int)) = (s : Int) := by rw [wraps62 _ (by omega) (by omega)]; omega
        have i2 : (0 : Int) ≤ (s : Int) := by omega
        have min64 : min s 64 = s := by omega
        have ha := u64_and1 lo hlo s
        obtain ⟨y, hy⟩ : ∃ y, lo / 2 ^ s % 2 = y := ⟨_, rfl⟩
        rw [hy] at ha
        have wy : IntKind.i64.wrap (y : Int) = (y : Int) := wraps62 _ (by omega) (by omega)
        have hR : bitI ⟨true, hi, lo⟩ (k : Int) = (y : Int) := by
          unfold bitI Adr.bit Adr.w
          simp only [Int.toNat_natCast, i1, if_true, Bool.false_eq_true, if_false, show k < 128 from hk, hk2]
          rw [hs, hy]
        rw [hR]
        clear hR
        replace hs := hide hs
        replace hy := hide hy
        replace hg := hide hg
        replace hB := hide hB
        replace hk := hide hk
        replace hk2 := hide hk2
        replace hbits' := hide hbits'
        go_enter Tryd.func24, Tryd.ntmps24
        go_wp2_with fail
        clear hw1
        refine hbits'.out.mono ?_
        rintro e w2 ⟨rfl, hb2⟩
        have hg2 := blk_below hb2 hzw hg.out
        have hB2 := hB.out.trans (hb2.mono hB.out.size)
        clear hcg hg hB hb2 hbits'
        have hcg := blk_cell hg2
        replace hg2 := hide hg2
        replace hB2 := hide hB2
        go_wp2_with fail
        go_ret
        exact ⟨rfl, hB2.out⟩
    · have t2 : decide ((128 : Int) ≤ (k : Int)) = true := by rw [decide_eq_true_eq]; omega
      have hR : bitI ⟨true, hi, lo⟩ (k : Int) = 0 := by
        unfold bitI Adr.bit Adr.w
        rw [if_pos (by omega), Int.toNat_natCast, if_neg (by simpa using hk)]
        rfl
      rw [hR]
      clear hR
      replace hk := hide hk
      replace hbits' := hide hbits'
      replace hg := hide hg
      replace hB := hide hB
      go_enter Tryd.func24, Tryd.ntmps24
      go_wp2_with fail
      clear hw1
      refine hbits'.out.mono ?_
      rintro e w2 ⟨rfl, hb2⟩
      have hB2 := hB.out.trans (hb2.mono hB.out.size)
      clear hcg hg hB hb2 hbits'
      replace hB2 := hide hB2
      go_wp2_with fail
      go_ret
      exact ⟨rfl, hB2.out⟩
end Addr05
end Go.Proofs.YtccmbnaakdffaaaDoor
