/- addr: Parse: the address that a text is. Condition: the cell of bytealg.MaxLen, a text of at most 80 bytes. -/
import Derived.Test.YtbcicbiphgeghaaDoorQLimitFull7
import Derived.Test.YtbcicbiphgeghaaDoorQLimitFull3
namespace Go.Proofs.YtbcicbiphgeghaaDoor
open Go.RowKit Go.ChangeShapes Go.WideShapes Go.ChangeAt Go.Deep
namespace Addr05
def Adr.arr (a : Adr) : Array Value := #[.bool a.v6, .int .u64 (a.hi : Int), .int .u64 (a.lo : Int)]
def adrP : Option Adr → Array Value
  | none => #[.bool false, .int .u64 0, .int .u64 0]
  | some a => a.arr
def errP (r : Option Adr) : Int := if r.isSome then 0 else 18
def pickT (s : List UInt8) : Option Adr → Option Adr
  | none => none
  | some a => if textA a = s then some a else none
theorem parseF_pick (s : List UInt8) (h : ¬ 39 < s.length) : parseF s = pickT s (rawF s) := by
  unfold parseF
  rw [if_neg h]
  cases rawF s <;> rfl
/-- What lies in the variable behind both readings. -/
def RawAt (S g : Nat) (r : Option Adr) (w wx : World) : Prop := ∃ a : Adr, wx.heap[g]? = some (.cells a.arr 26 (0, 0)) ∧ (∀ b, r = some b → b = a) ∧ wx.heap[S]? = some (.cells #[.bool false, .int .u64 0, .int .u64 0] 26 (0, 0)) ∧ Below S w wx ∧ g < wx.heap.size
theorem six_arr (s : List UInt8) : ∃ a : Adr, adrO (sixF s) = a.arr ∧ ∀ p, sixF s = some p → a = ⟨true, p.1, p.2⟩ := by
  cases h : sixF s with
  | none => exact ⟨⟨false, 0, 0⟩, rfl, fun p e => by cases e⟩
  | some p => exact ⟨⟨true, p.1, p.2⟩, rfl, fun q e => by cases e; rfl⟩
set_option maxRecDepth 20000 in
set_option maxHeartbeats 8000000 in
theorem Parse_any (s : List UInt8) (hs : s.length ≤ 80) (w : World) (hm : MaxAt w) :
    Calls Tryd.prog 81 #[.string (str s)] w fun e w' => e = .returned (.tuple #[.agg (adrP (parseF s)), .int .i64 (errP (parseF s))]) ∧ Below w.heap.size w w' := by
  obtain ⟨w1, hw1⟩ : ∃ w1, w.alloc (.cells #[.bool false, .int .u64 0, .int .u64 0] 26) = w1 := ⟨_, rfl⟩
  have hB : Below w.heap.size w w1 := hw1 ▸ (Below.refl _ _).alloc (Nat.le_refl _) _
  have hg : w1.heap[w.heap.size]? = some (.cells #[.bool false, .int .u64 0, .int .u64 0] 26 (0, 0)) := hw1 ▸ blk_new _ _ _
  have hzw : w.heap.size < w1.heap.size := by rw [← hw1]; simp
  have hz : (str s).size = s.length := size_str s
  have hm1 := hm.below hB
  by_cases h39 : 39 < s.length
  · have hR : parseF s = none := by unfold parseF; rw [if_pos h39]
    rw [hR]
    have t1 : decide ((39 : Int) < (s.length : Int)) = true := by rw [decide_eq_true_eq]; omega
    replace hR := hide hR
    replace h39 := hide h39
    replace hB := hide hB
    replace hg := hide hg
    replace hm1 := hide hm1
    replace hm := hide hm
    go_enter Tryd.func81, Tryd.ntmps81
    go_upto_region 2 with fail
    clear hw1
    apply wp_region_lit
    iterate 1 (refine wpList_plain rfl fun K hK => ?_; go_simp; refine hK _ _ ?_; clear hK K)
    refine wpl_st rfl 26 (.tmp 2) (.tmp 9) rfl (w.heap.size) 0 rfl (#[.bool false, .int .u64 0, .int .u64 0]) rfl hg.out (by simp) (by kernel_rfl) (adr_one _ _ _) fun w9 hg9 g9 => ?_
    rw [putA_whole _ _ (by rfl)] at hg9
    have hb9 : Below (w.heap.size) w w9 := (hB.out).trans (below_grown g9 (by have := (hB.out).size; omega) (Nat.le_refl _))
    have hld : (loadVar 26 ⟨w.heap.size, 0, none⟩).run Tryd.prog w9 = .ok (.agg (#[.bool false, .int .u64 0, .int .u64 0])) w9 := by
      simpa using run_loadVar_mid w9 (w.heap.size) 0 26 (#[.bool false, .int .u64 0, .int .u64 0]).toList _ (blk_range hg9) Tryd.underlying26 rfl (by kernel_rfl)
    clear hg9 g9
    replace hld := hide hld
    replace hb9 := hide hb9
    iterate 1 (refine wpList_plain rfl fun K hK => ?_; go_simp; refine hK _ _ ?_; clear hK K)
    refine wpList_nil ?_
    go_simp
    go_wp2_with fail
    exact bodyPost_ret (v := .tuple #[.agg #[.bool false, .int .u64 0, .int .u64 0], .int .i64 18]) (by simp [results, Tryd.results81, asAddr, hld.out, Result.andThen]) rfl ⟨rfl, hb9.out⟩
  have t1 : decide ((39 : Int) < (s.length : Int)) = false := by rw [decide_eq_false_iff_not]; omega
  obtain ⟨RW, hRW⟩ : ∃ r, rawF s = r := ⟨_, rfl⟩
  have hPF := parseF_pick s h39
  rw [hRW] at hPF
  have hrok : ∀ a, RW = some a → a.ok := fun a h => (raw_ok s a (hRW.trans h)).1
  have hRW2 := hRW
  unfold rawF at hRW2
  obtain ⟨PF, hPF'⟩ : ∃ x, parseF s = x := ⟨_, rfl⟩
  rw [hPF'] at hPF
  rw [hPF']
  have hfour := four_any s hs w1 hm1
  obtain ⟨c, hc⟩ : ∃ c, decide (0 ≤ Lib.indexByte s 58) = c := ⟨_, rfl⟩
  have hcon : ∀ w : World, Calls Tryd.prog 116 #[.string (str s), .string ⟨#[58]⟩] w fun e w' => e = .returned (.bool c) ∧ w' = w := by
    intro w
    rw [← hc]
    exact Tryd.strings_Contains_one (str s) 58 w
  obtain ⟨F1, hF1⟩ : ∃ x, (fourF s).1 = x := ⟨_, rfl⟩
  obtain ⟨F2, hF2⟩ : ∃ x, (fourF s).2 = x := ⟨_, rfl⟩
  rw [hF1, hF2] at hfour hRW2
  have hsix := six_any s hs
  obtain ⟨X, hX1, hX2⟩ := six_arr s
  obtain ⟨S6, hS6⟩ : ∃ x, sixF s = x := ⟨_, rfl⟩
  rw [hS6] at hsix hX1 hX2 hRW2
  rw [hX1] at hsix
  have e0 : c = true → RW = S6.map fun p => ⟨true, p.1, p.2⟩ := fun h => by rw [h] at hc; rw [← hRW2, if_pos (of_decide_eq_true hc)]
  have e1 : c = false → RW = if F2 = true then some ⟨false, 0, F1⟩ else none := fun h => by rw [h] at hc; rw [← hRW2, if_neg (of_decide_eq_false hc)]
  obtain ⟨x6, hx6⟩ : ∃ x, S6.isSome = x := ⟨_, rfl⟩
  rw [hx6] at hsix
  clear hRW2 hc hX1 hPF' hF1 hF2 hS6 hRW
  replace hB := hide hB
  replace hg := hide hg
  replace hm1 := hide hm1
  replace hm := hide hm
  replace hPF := hide hPF
  replace hrok := hide hrok
  replace hfour := hide hfour
  replace hcon := hide hcon
  replace hsix := hide hsix
  replace hX2 := hide hX2
  replace e0 := hide e0
  replace e1 := hide e1
  replace hx6 := hide hx6
  replace h39 := hide h39
  go_enter Tryd.func81, Tryd.ntmps81
  go_upto_region 3 with fail
  clear hw1
  apply wp_region_lit
  iterate 1 (refine wpList_plain rfl fun K hK => ?_; go_simp; refine hK _ _ ?_; clear hK K)
  refine wpList_plain rfl fun K hK => ?_
  go_simp
  refine (hfour.out).mono ?_
  rintro e w2 ⟨rfl, hb2⟩
  have hg2 := blk_below hb2 hzw hg.out
  have hB2 := hB.out.trans (hb2.mono hB.out.size)
  have hz2 := hb2.size
  have hm2 := hm1.out.below hb2
  clear hb2 hfour hg hB hm1
  replace hg2 := hide hg2
  replace hB2 := hide hB2
  replace hm2 := hide hm2
  go_simp
  refine hK _ _ ?_
  clear hK K
  iterate 3 (refine wpList_plain rfl fun K hK => ?_; go_simp; refine hK _ _ ?_; clear hK K)
  refine wpl_new rfl rfl 26 _ (alloc_adr _ rfl) 4 rfl (.tmp 13) rfl _ (fun _ => rfl) (fun _ => rfl) rfl (by kernel_rfl) (adr_one false 0 (F1 : Int)) ?_
  intro w3 hg3 hb3 hz3
  have hr3 := blk_below hb3 (by omega) hg2.out
  have hB3 := hB2.out.trans (hb3.mono hB2.out.size)
  have hm3 := hm2.out.below hb3
  clear hb3 hg2 hB2 hm2
  replace hg3 := hide hg3
  replace hr3 := hide hr3
  replace hB3 := hide hB3
  replace hm3 := hide hm3
  iterate 1 (refine wpList_plain rfl fun K hK => ?_; go_simp; refine hK _ _ ?_; clear hK K)
  refine wpList_nil ?_
  go_simp
  obtain ⟨gg, hgg⟩ : ∃ x, w2.heap.size = x := ⟨_, rfl⟩
  rw [hgg] at hg3 hz3 hz2 ⊢
  obtain ⟨ok, hok⟩ : ∃ b, RW.isSome = b := ⟨_, rfl⟩
  replace hgg := hide hgg
  replace hok := hide hok
  go_wp2_with fail
  refine (hcon.out w3).mono ?_
  rintro e w4 ⟨rfl, rfl⟩
  go_upto_if 16 with fail
  go_cut [5] (fun bv wx => bv = .bool ok ∧ RawAt w.heap.size gg RW w wx)
  case first =>
    cases c
    · have e2 := e1.out rfl
      replace e2 := hide e2
      go_wp2_with fail
      go_meet
      refine ⟨?_, ⟨⟨false, 0, F1⟩, hg3.out, fun b h => ?_, hr3.out, hB3.out, by omega⟩⟩
      · rw [← hok.out, e2.out]
        cases F2 <;> rfl
      · rw [e2.out] at h
        split at h
        · cases h; rfl
        · cases h
    · have e2 := e0.out rfl
      replace e2 := hide e2
      go_upto_region 5 with fail
      apply wp_region_lit
      iterate 1 (refine wpList_plain rfl fun K hK => ?_; go_simp; refine hK _ _ ?_; clear hK K)
      refine wpList_plain rfl fun K hK => ?_
      go_simp
      refine (hsix.out w4 hm3.out).mono ?_
      rintro e w5 ⟨rfl, hb5⟩
      have hg5 := blk_below hb5 (by omega) hg3.out
      have hr5 := blk_below hb5 (by omega) hr3.out
      have hB5 := hB3.out.trans (hb5.mono hB3.out.size)
      have hz5 := hb5.size
      clear hb5 hsix hg3 hr3 hB3
      replace hg5 := hide hg5
      replace hr5 := hide hr5
      replace hB5 := hide hB5
      go_simp
      refine hK _ _ ?_
      clear hK K
      iterate 3 (refine wpList_plain rfl fun K hK => ?_; go_simp; refine hK _ _ ?_; clear hK K)
      refine wpl_st rfl 26 (.tmp 4) (.tmp 20) rfl gg 0 rfl X.arr rfl hg5.out (by simp [Adr.arr]) (by kernel_rfl) (adr_one _ _ _) fun w6 hg6 g6 => ?_
      rw [putA_whole _ _ (by rfl)] at hg6
      have hr6 := grown_other g6 (by omega) (by omega) hr5.out
      have hB6 : Below w.heap.size w w6 := hB5.out.trans (below_grown g6 (by omega) (by omega))
      have hz6 := g6.size
      clear g6 hg5 hr5 hB5
      replace hg6 := hide hg6
      replace hr6 := hide hr6
      replace hB6 := hide hB6
      iterate 1 (refine wpList_plain rfl fun K hK => ?_; go_simp; refine hK _ _ ?_; clear hK K)
      refine wpList_nil ?_
      go_wp2_with fail
      go_meet
      refine ⟨?_, ⟨X, hg6.out, fun b h => ?_, hr6.out, hB6.out, by omega⟩⟩
      · rw [← hok.out, ← hx6.out, e2.out]
        cases S6 <;> rfl
      · rw [e2.out] at h
        obtain ⟨p, hp, rfl⟩ := Option.map_eq_some_iff.1 h
        exact (hX2.out p hp).symm
  case rest =>
    obtain ⟨rfl, a, hga, hab, hr, hBc, hzc⟩ := hcut
    clear hg3 hr3 hB3 hsix hX2 e0 e1 hx6 hcon hm3
    replace hga := hide hga
    replace hr := hide hr
    replace hBc := hide hBc
    have hgl : w.heap.size < gg := by omega
    cases RW with
    | none =>
      obtain rfl : false = ok := hok.out
      obtain rfl : PF = none := hPF.out
      clear hok hPF hrok hab
      go_upto_region 7 with fail
      apply wp_region_lit
      iterate 1 (refine wpList_plain rfl fun K hK => ?_; go_simp; refine hK _ _ ?_; clear hK K)
      refine wpl_st rfl 26 (.tmp 2) (.tmp 30) rfl (w.heap.size) 0 rfl (#[.bool false, .int .u64 0, .int .u64 0]) rfl hr.out (by simp) (by kernel_rfl) (adr_one _ _ _) fun w9 hg9 g9 => ?_
      rw [putA_whole _ _ (by rfl)] at hg9
      have hb9 : Below (w.heap.size) w w9 := (hBc.out).trans (below_grown g9 (by have := (hBc.out).size; omega) (Nat.le_refl _))
      have hld : (loadVar 26 ⟨w.heap.size, 0, none⟩).run Tryd.prog w9 = .ok (.agg (#[.bool false, .int .u64 0, .int .u64 0])) w9 := by
        simpa using run_loadVar_mid w9 (w.heap.size) 0 26 (#[.bool false, .int .u64 0, .int .u64 0]).toList _ (blk_range hg9) Tryd.underlying26 rfl (by kernel_rfl)
      clear hg9 g9
      replace hld := hide hld
      replace hb9 := hide hb9
      iterate 1 (refine wpList_plain rfl fun K hK => ?_; go_simp; refine hK _ _ ?_; clear hK K)
      refine wpList_nil ?_
      go_simp
      go_wp2_with fail
      exact bodyPost_ret (v := .tuple #[.agg #[.bool false, .int .u64 0, .int .u64 0], .int .i64 18]) (by simp [results, Tryd.results81, asAddr, hld.out, Result.andThen]) rfl ⟨rfl, hb9.out⟩
    | some b =>
      obtain rfl : true = ok := hok.out
      obtain rfl := hab b rfl
      have hok2 := hrok.out b rfl
      have hPF2 : PF = if textA b = s then some b else none := hPF.out
      obtain ⟨v6, hi, lo⟩ := b
      have hh : hi < 18446744073709551616 := hok2.1
      have hl : lo < 18446744073709551616 := hok2.2
      clear hok hPF hrok hab hok2
      unfold textA at hPF2
      unfold Adr.arr at hga
      have hcg := blk_cell hga.out
      have htx := text_any v6 hi lo hh hl wc
      dsimp only at hPF2
      obtain ⟨T, hT⟩ : ∃ x, textL v6 hi lo = x := ⟨_, rfl⟩
      rw [hT] at hPF2 htx
      replace hPF2 := hide hPF2
      replace htx := hide htx
      replace hT := hide hT
      by_cases hTs : T = s
      · obtain rfl : PF = some ⟨v6, hi, lo⟩ := by rw [hPF2.out, if_pos hTs]
        rw [hTs] at htx
        clear hPF2 hT
        replace hTs := hide hTs
        go_wp2_with fail
        refine htx.out.mono ?_
        rintro e w5 ⟨rfl, hb5⟩
        have hga5 := blk_below hb5 (by omega) hga.out
        have hr5 := blk_below hb5 (by omega) hr.out
        have hB5 := hBc.out.trans (hb5.mono hBc.out.size)
        have hz5 := hb5.size
        clear hb5 htx hga hr hBc hcg
        replace hga5 := hide hga5
        replace hr5 := hide hr5
        replace hB5 := hide hB5
        go_upto_region 8 with fail
        apply wp_region_lit
        refine wpl_ld rfl 26 (.tmp 4) rfl gg rfl _ _ hga5.out Tryd.underlying26 rfl (by kernel_rfl) ?_
        refine wpl_st rfl 26 (.tmp 2) (.tmp 31) rfl (w.heap.size) 0 rfl (#[.bool v6, .int .u64 (hi : Int), .int .u64 (lo : Int)]) rfl hr5.out (by simp) (by kernel_rfl) (adr_one _ _ _) fun w9 hg9 g9 => ?_
        rw [putA_whole _ _ (by rfl)] at hg9
        have hb9 : Below (w.heap.size) w w9 := (hB5.out).trans (below_grown g9 (by have := (hB5.out).size; omega) (Nat.le_refl _))
        have hld : (loadVar 26 ⟨w.heap.size, 0, none⟩).run Tryd.prog w9 = .ok (.agg (#[.bool v6, .int .u64 (hi : Int), .int .u64 (lo : Int)])) w9 := by
          simpa using run_loadVar_mid w9 (w.heap.size) 0 26 (#[.bool v6, .int .u64 (hi : Int), .int .u64 (lo : Int)]).toList _ (blk_range hg9) Tryd.underlying26 rfl (by kernel_rfl)
        clear hg9 g9
        replace hld := hide hld
        replace hb9 := hide hb9
        iterate 1 (refine wpList_plain rfl fun K hK => ?_; go_simp; refine hK _ _ ?_; clear hK K)
        refine wpList_nil ?_
        go_simp
        go_wp2_with fail
        exact bodyPost_ret (v := .tuple #[.agg #[.bool v6, .int .u64 (hi : Int), .int .u64 (lo : Int)], .int .i64 0]) (by simp [results, Tryd.results81, asAddr, hld.out, Result.andThen]) rfl ⟨rfl, hb9.out⟩
      · obtain rfl : PF = none := by rw [hPF2.out, if_neg hTs]
        have tq : ((str T).toList == (str s).toList) = false := by rw [str_toList, str_toList]; simpa using hTs
        clear hPF2 hT
        replace hTs := hide hTs
        go_wp2_with fail
        refine htx.out.mono ?_
        rintro e w5 ⟨rfl, hb5⟩
        have hga5 := blk_below hb5 (by omega) hga.out
        have hr5 := blk_below hb5 (by omega) hr.out
        have hB5 := hBc.out.trans (hb5.mono hBc.out.size)
        have hz5 := hb5.size
        clear hb5 htx hga hr hBc hcg
        replace hga5 := hide hga5
        replace hr5 := hide hr5
        replace hB5 := hide hB5
        go_upto_region 7 with fail
        apply wp_region_lit
        iterate 1 (refine wpList_plain rfl fun K hK => ?_; go_simp; refine hK _ _ ?_; clear hK K)
        refine wpl_st rfl 26 (.tmp 2) (.tmp 30) rfl (w.heap.size) 0 rfl (#[.bool false, .int .u64 0, .int .u64 0]) rfl hr5.out (by simp) (by kernel_rfl) (adr_one _ _ _) fun w9 hg9 g9 => ?_
        rw [putA_whole _ _ (by rfl)] at hg9
        have hb9 : Below (w.heap.size) w w9 := (hB5.out).trans (below_grown g9 (by have := (hB5.out).size; omega) (Nat.le_refl _))
        have hld : (loadVar 26 ⟨w.heap.size, 0, none⟩).run Tryd.prog w9 = .ok (.agg (#[.bool false, .int .u64 0, .int .u64 0])) w9 := by
          simpa using run_loadVar_mid w9 (w.heap.size) 0 26 (#[.bool false, .int .u64 0, .int .u64 0]).toList _ (blk_range hg9) Tryd.underlying26 rfl (by kernel_rfl)
        clear hg9 g9
        replace hld := hide hld
        replace hb9 := hide hb9
        iterate 1 (refine wpList_plain rfl fun K hK => ?_; go_simp; refine hK _ _ ?_; clear hK K)
        refine wpList_nil ?_
        go_simp
        go_wp2_with fail
        exact bodyPost_ret (v := .tuple #[.agg #[.bool false, .int .u64 0, .int .u64 0], .int .i64 18]) (by simp [results, Tryd.results81, asAddr, hld.out, Result.andThen]) rfl ⟨rfl, hb9.out⟩
end Addr05
end Go.Proofs.YtbcicbiphgeghaaDoor
/- addr: V4, V6, Bits; Compare, and the law's less. No condition. -/
namespace Go.Proofs.YtbcicbiphgeghaaDoor
open Go.RowKit Go.ChangeShapes Go.WideShapes Go.ChangeAt Go.Deep
namespace Addr05
theorem Bits_any (v6 : Bool) (hi lo : Int) (w : World) :
    Calls Tryd.prog 56 #[.agg #[.bool v6, .int .u64 hi, .int .u64 lo]] w fun e w' => e = .returned (.int .i64 (if v6 then 128 else 32)) ∧ Below w.heap.size w w' := by
  cases v6
  · go_enter Tryd.func56, Tryd.ntmps56
    go_wp2_with fail
    go_ret
    exact ⟨rfl, (Below.refl _ _).alloc (Nat.le_refl _) _⟩
  · go_enter Tryd.func56, Tryd.ntmps56
    go_wp2_with fail
    go_ret
    exact ⟨rfl, (Below.refl _ _).alloc (Nat.le_refl _) _⟩
def lessB (a b : Adr) : Bool := if a.v6 = b.v6 then (decide (a.hi < b.hi) || (decide (a.hi = b.hi) && decide (a.lo < b.lo))) else b.v6
def cmpI (a b : Adr) : Int := if a.v6 = b.v6 ∧ a.hi = b.hi ∧ a.lo = b.lo then 0 else if lessB a b then -1 else 1
theorem below2 (w : World) (o o' : Obj) : Below w.heap.size w ((w.alloc o).alloc o') := ((Below.refl _ _).alloc (Nat.le_refl _) _).alloc (by simp) _
end Addr05
end Go.Proofs.YtbcicbiphgeghaaDoor
/- addr: get: bytes as a number. Conditions: at most 2^40 bytes. -/
namespace Go.Proofs.YtbcicbiphgeghaaDoor
open Go.RowKit Go.ChangeShapes Go.WideShapes Go.ChangeAt Go.Deep
namespace Addr05
def getN (l : List UInt8) : Nat := l.foldl (fun n c => (n * 256 + c.toNat) % 18446744073709551616) 0
theorem getN_snoc (l : List UInt8) (k : Nat) (h : k < l.length) : getN (l.take (k + 1)) = (getN (l.take k) * 256 + (l.getD k 0).toNat) % 18446744073709551616 := by
  have e : l.take (k + 1) = l.take k ++ [l[k]] := by rw [List.take_add_one, List.getElem?_eq_getElem h]; rfl
  have e2 : l.getD k 0 = l[k] := by rw [List.getD_eq_getElem?_getD, List.getElem?_eq_getElem h]; rfl
  unfold getN
  rw [e, e2, List.foldl_append]
  rfl
theorem getN_lt (l : List UInt8) : getN l < 18446744073709551616 := by
  unfold getN
  rcases List.eq_nil_or_concat l with rfl | ⟨r, x, rfl⟩
  · decide
  · simp only [List.concat_eq_append, List.foldl_append, List.foldl_cons, List.foldl_nil]
    exact Nat.mod_lt _ (by omega)
end Addr05
end Go.Proofs.YtbcicbiphgeghaaDoor
/- addr: Of, Bit: an address out of bytes; a bit of an address. Conditions: at most 2^40 bytes; numbers of 64 bits. -/
namespace Go.Proofs.YtbcicbiphgeghaaDoor
open Go.RowKit Go.ChangeShapes Go.WideShapes Go.ChangeAt Go.Deep
/-- A struct is stored, at place o of a block: one operation. -/
theorem wp_st {P : Program} {op : Oper} {a : Act} {w : World} {K : Act → World → Prop} {Q : Exit → Act → World → Prop} (ty : TypeId) (x y : Operand) (ho : op.op = .store ty x y) (g o : Nat) (hx : a.eval x = .pointer (some ⟨g, o, none⟩)) (vs : Array Value) (hy : a.eval y = .agg vs)
    {cs : Array Value} {t : TypeId} (hc : w.heap[g]? = some (.cells cs t (0, 0))) (hn : o + vs.size ≤ cs.size) (hi : (P.info? ty).map (·.size) = some vs.size) (h1 : vs.all (·.oneCell') = true)
    (h : ∀ w', w'.heap[g]? = some (.cells (putA cs o vs.toList) t (0, 0)) → w.grownBy w' (some g) → K (a.put op.dst undef) w') : op.wp P a w K Q := by
  obtain ⟨w', e, h2, h3⟩ := stored_at (o := o) hc vs.toList (by simpa using hn)
  refine wp_store_mid ty x y ho g o vs hx hy (blk_there hc hn) hi h1 ?_
  rw [e]
  exact h w' h2 h3
namespace Addr05
def ofR (xs : List UInt8) : Option Adr := if xs.length = 4 then some ⟨false, 0, getN xs % 4294967296⟩ else if xs.length = 16 then some ⟨true, getN (xs.take 8), getN (xs.drop 8)⟩ else none
theorem u64_and1 (n : Nat) (hn : n < 18446744073709551616) (s : Nat) : bits .and .u64 ((n : Int) / 2 ^ s) 1 = ((n / 2 ^ s % 2 : Nat) : Int) := by
  have e : (n : Int) / 2 ^ s = ((n / 2 ^ s : Nat) : Int) := by push_cast; rfl
  have e2 : n / 2 ^ s ≤ n := Nat.div_le_self _ _
  rw [e]
  obtain ⟨q, hq⟩ : ∃ q, n / 2 ^ s = q := ⟨_, rfl⟩
  rw [hq] at e2 ⊢
  exact bits_mask .u64 64 (by decide) wrapsu64 1 (by decide) _ (by omega) (by omega)
def bitI (a : Adr) (i : Int) : Int := if 0 ≤ i then (a.bit i.toNat : Int) else 0
set_option maxRecDepth 20000 in
set_option maxHeartbeats 8000000 in
theorem Bit_any (a : Adr) (ho : a.ok) (i : Int) (h1 : -9223372036854775808 ≤ i) (h2 : i ≤ 9223372036854775807) (w : World) :
    Calls Tryd.prog 84 #[.agg #[.bool a.v6, .int .u64 (a.hi : Int), .int .u64 (a.lo : Int)], .int .i64 i] w fun e w' => e = .returned (.int .i64 (bitI a i)) ∧ Below w.heap.size w w' := by
  obtain ⟨v, hi, lo⟩ := a
  obtain ⟨hhi, hlo⟩ := ho
  dsimp only at hhi hlo ⊢
  obtain ⟨w1, hw1⟩ : ∃ w1, w.alloc (.cells #[.bool v, .int .u64 (hi : Int), .int .u64 (lo : Int)] 26) = w1 := ⟨_, rfl⟩
  have hB : Below w.heap.size w w1 := hw1 ▸ (Below.refl _ _).alloc (Nat.le_refl _) _
  have hg : w1.heap[w.heap.size]? = some (.cells #[.bool v, .int .u64 (hi : Int), .int .u64 (lo : Int)] 26 (0, 0)) := hw1 ▸ blk_new _ _ _
  have hzw : w.heap.size < w1.heap.size := by rw [← hw1]; simp
  by_cases hn : i < 0
  · have t1 : decide (i < 0) = true := by rw [decide_eq_true_eq]; omega
    have hR : bitI ⟨v, hi, lo⟩ i = 0 := by unfold bitI; rw [if_neg (by omega)]
    rw [hR]
    clear hR
    replace hg := hide hg
    replace hB := hide hB
    replace hn := hide hn
    go_enter Tryd.func84, Tryd.ntmps84
    go_wp2_with fail
    go_ret
    exact ⟨rfl, hB.out⟩
  have t1 : decide (i < 0) = false := by rw [decide_eq_false_iff_not]; omega
  obtain ⟨k, rfl⟩ : ∃ k : Nat, i = (k : Int) := ⟨i.toNat, by omega⟩
  have hbits := Bits_any v (hi : Int) (lo : Int) w1
  have hcg := blk_cell hg
  have fin : ∀ W : Int, (if v = true then (128 : Int) else 32) = W → (∀ w2 : World, Below w1.heap.size w1 w2 → True) := fun _ _ _ _ => trivial
  clear fin
  cases v
  · have hbits' : Calls Tryd.prog 56 #[.agg #[.bool false, .int .u64 (hi : Int), .int .u64 (lo : Int)]] w1 fun e w' => e = .returned (.int .i64 32) ∧ Below w1.heap.size w1 w' := hbits
    clear hbits
    by_cases hk : k < 32
    · have t2 : decide ((32 : Int) ≤ (k : Int)) = false := by rw [decide_eq_false_iff_not]; omega
      have i1 : (0 : Int) ≤ (k : Int) := by omega
      obtain ⟨s, hs⟩ : ∃ s, 31 - k = s := ⟨_, rfl⟩
      have ws : IntKind.i64.wrap (31 - (k : Int)) = (s : Int) := by rw [wraps62 _ (by omega) (by omega)]; omega
      have i2 : (0 : Int) ≤ (s : Int) := by omega
      have min64 : min s 64 = s := by omega
      have ha := u64_and1 lo hlo s
      obtain ⟨y, hy⟩ : ∃ y, lo / 2 ^ s % 2 = y := ⟨_, rfl⟩
      rw [hy] at ha
      have wy : IntKind.i64.wrap (y : Int) = (y : Int) := wraps62 _ (by omega) (by omega)
      have hR : bitI ⟨false, hi, lo⟩ (k : Int) = (y : Int) := by
        unfold bitI Adr.bit Adr.w
        simp only [Int.toNat_natCast, i1, if_true, Bool.false_eq_true, if_false, show k < 32 from hk]
        rw [hs, hy]
      rw [hR]
      clear hR
      replace hs := hide hs
      replace hy := hide hy
      replace hg := hide hg
      replace hB := hide hB
      replace hk := hide hk
      replace hbits' := hide hbits'
      go_enter Tryd.func84, Tryd.ntmps84
      go_wp2_with fail
      clear hw1
      refine hbits'.out.mono ?_
      rintro e w2 ⟨rfl, hb2⟩
      have hg2 := blk_below hb2 hzw hg.out
      have hB2 := hB.out.trans (hb2.mono hB.out.size)
      clear hcg hg hB hb2 hbits'
      have hcg := blk_cell hg2
      replace hg2 := hide hg2
      replace hB2 := hide hB2
      go_wp2_with fail
      go_ret
      exact ⟨rfl, hB2.out⟩
    · have t2 : decide ((32 : Int) ≤ (k : Int)) = true := by rw [decide_eq_true_eq]; omega
      have hR : bitI ⟨false, hi, lo⟩ (k : Int) = 0 := by
        unfold bitI Adr.bit Adr.w
        rw [if_pos (by omega), Int.toNat_natCast, if_neg (by simpa using hk)]
        rfl
      rw [hR]
      clear hR
      replace hk := hide hk
      replace hbits' := hide hbits'
      replace hg := hide hg
      replace hB := hide hB
      go_enter Tryd.func84, Tryd.ntmps84
      go_wp2_with fail
      clear hw1
      refine hbits'.out.mono ?_
      rintro e w2 ⟨rfl, hb2⟩
      have hB2 := hB.out.trans (hb2.mono hB.out.size)
      clear hcg hg hB hb2 hbits'
      replace hB2 := hide hB2
      go_wp2_with fail
      go_ret
      exact ⟨rfl, hB2.out⟩
  · have hbits' : Calls Tryd.prog 56 #[.agg #[.bool true, .int .u64 (hi : Int), .int .u64 (lo : Int)]] w1 fun e w' => e = .returned (.int .i64 128) ∧ Below w1.heap.size w1 w' := hbits
    clear hbits
    by_cases hk : k < 128
    · have t2 : decide ((128 : Int) ≤ (k : Int)) = false := by rw [decide_eq_false_iff_not]; omega
      by_cases hk2 : k < 64
      · have t3 : decide ((k : Int) < 64) = true := by rw [decide_eq_true_eq]; omega
        have i1 : (0 : Int) ≤ (k : Int) := by omega
        obtain ⟨s, hs⟩ : ∃ s, 63 - k = s := ⟨_, rfl⟩
        have ws : IntKind.i64.wrap (63 - (k : Int)) = (s : Int) := by rw [wraps62 _ (by omega) (by omega)]; omega
        have i2 : (0 : Int) ≤ (s : Int) := by omega
        have min64 : min s 64 = s := by omega
        have ha := u64_and1 hi hhi s
        obtain ⟨y, hy⟩ : ∃ y, hi / 2 ^ s % 2 = y := ⟨_, rfl⟩
        rw [hy] at ha
        have wy : IntKind.i64.wrap (y : Int) = (y : Int) := wraps62 _ (by omega) (by omega)
        have hR : bitI ⟨true, hi, lo⟩ (k : Int) = (y : Int) := by
          unfold bitI Adr.bit Adr.w
          simp only [Int.toNat_natCast, i1, if_true, Bool.false_eq_true, if_false, show k < 128 from hk, hk2]
          rw [hs, hy]
        rw [hR]
        clear hR
        replace hs := hide hs
        replace hy := hide hy
        replace hg := hide hg
        replace hB := hide hB
        replace hk := hide hk
        replace hk2 := hide hk2
        replace hbits' := hide hbits'
        go_enter Tryd.func84, Tryd.ntmps84
        go_wp2_with fail
        clear hw1
        refine hbits'.out.mono ?_
        rintro e w2 ⟨rfl, hb2⟩
        have hg2 := blk_below hb2 hzw hg.out
        have hB2 := hB.out.trans (hb2.mono hB.out.size)
        clear hcg hg hB hb2 hbits'
        have hcg := blk_cell hg2
        replace hg2 := hide hg2
        replace hB2 := hide hB2
        go_wp2_with fail
        go_ret
        exact ⟨rfl, hB2.out⟩
      · have t3 : decide ((k : Int) < 64) = false := by rw [decide_eq_false_iff_not]; omega
        have i1 : (0 : Int) ≤ (k : Int) := by omega
        obtain ⟨s, hs⟩ : ∃ s, 127 - k = s := ⟨_, rfl⟩
        have ws : IntKind.i64.wrap (127 - (k : Int)) = (s : Int) := by rw [wraps62 _ (by omega) (by omega)]; omega
        have i2 : (0 : Int) ≤ (s : Int) := by omega
        have min64 : min s 64 = s := by omega
        have ha := u64_and1 lo hlo s
        obtain ⟨y, hy⟩ : ∃ y, lo / 2 ^ s % 2 = y := ⟨_, rfl⟩
        rw [hy] at ha
        have wy : IntKind.i64.wrap (y : Int) = (y : Int) := wraps62 _ (by omega) (by omega)
        have hR : bitI ⟨true, hi, lo⟩ (k : Int) = (y : Int) := by
          unfold bitI Adr.bit Adr.w
          simp only [Int.toNat_natCast, i1, if_true, Bool.false_eq_true, if_false, show k < 128 from hk, hk2]
          rw [hs, hy]
        rw [hR]
        clear hR
        replace hs := hide hs
        replace hy := hide hy
        replace hg := hide hg
        replace hB := hide hB
        replace hk := hide hk
        replace hk2 := hide hk2
        replace hbits' := hide hbits'
        go_enter Tryd.func84, Tryd.ntmps84
        go_wp2_with fail
        clear hw1
        refine hbits'.out.mono ?_
        rintro e w2 ⟨rfl, hb2⟩
        have hg2 := blk_below hb2 hzw hg.out
        have hB2 := hB.out.trans (hb2.mono hB.out.size)
        clear hcg hg hB hb2 hbits'
        have hcg := blk_cell hg2
        replace hg2 := hide hg2
        replace hB2 := hide hB2
        go_wp2_with fail
        go_ret
        exact ⟨rfl, hB2.out⟩
    · have t2 : decide ((128 : Int) ≤ (k : Int)) = true := by rw [decide_eq_true_eq]; omega
      have hR : bitI ⟨true, hi, lo⟩ (k : Int) = 0 := by
        unfold bitI Adr.bit Adr.w
        rw [if_pos (by omega), Int.toNat_natCast, if_neg (by simpa using hk)]
        rfl
      rw [hR]
      clear hR
      replace hk := hide hk
      replace hbits' := hide hbits'
      replace hg := hide hg
      replace hB := hide hB
      go_enter Tryd.func84, Tryd.ntmps84
      go_wp2_with fail
      clear hw1
      refine hbits'.out.mono ?_
      rintro e w2 ⟨rfl, hb2⟩
      have hB2 := hB.out.trans (hb2.mono hB.out.size)
      clear hcg hg hB hb2 hbits'
      replace hB2 := hide hB2
      go_wp2_with fail
      go_ret
      exact ⟨rfl, hB2.out⟩
end Addr05
end Go.Proofs.YtbcicbiphgeghaaDoor
/- pfx: cut, Mask: an address with its last bits 0. Conditions: numbers of 64 bits. -/
namespace Go.Proofs.YtbcicbiphgeghaaDoor
open Go.RowKit Go.ChangeShapes Go.WideShapes Go.ChangeAt Go.Deep
namespace Addr05
theorem high_eq (k : Nat) (hk : k ≤ 64) : 18446744073709551616 - 2 ^ k = (2 ^ (64 - k) - 1) * 2 ^ k := by
  rw [Nat.sub_mul, Nat.one_mul, ← Nat.pow_add, show 64 - k + k = 64 by omega]
theorem and_high (a k : Nat) (ha : a < 18446744073709551616) (hk : k ≤ 64) : a &&& (18446744073709551616 - 2 ^ k) = mkB a k := by
  apply Nat.eq_of_testBit_eq
  intro j
  rw [Nat.testBit_and, testBit_mkB, high_eq k hk, ← Nat.shiftLeft_eq, Nat.testBit_shiftLeft, Nat.testBit_two_pow_sub_one]
  by_cases hkj : k ≤ j
  · by_cases hj : j < 64
    · simp [hkj, show j - k < 64 - k by omega]
    · rw [Nat.testBit_lt_two_pow (Nat.lt_of_lt_of_le ha (show 2 ^ 64 ≤ 2 ^ j from Nat.pow_le_pow_right (by omega) (by omega)))]
      simp
  · simp [hkj]
theorem u64_high (a k : Nat) (ha : a < 18446744073709551616) (hk : k ≤ 64) : bits .and .u64 (a : Int) ((18446744073709551616 - 2 ^ k : Nat) : Int) = ((mkB a k : Nat) : Int) := by
  have hp : 0 < 2 ^ k := Nat.two_pow_pos k
  rw [(bits_nat .u64 64 (by decide) wrapsu64 a (18446744073709551616 - 2 ^ k) ha (by omega)).1, and_high a k ha hk]
set_option maxRecDepth 20000 in
theorem pcut_any (b : Nat) (hb : b ≤ 64) (w : World) :
    Calls Tryd.prog 85 #[.int .i64 (b : Int)] w fun e w' => e = .returned (.int .u64 ((18446744073709551616 - 2 ^ (64 - b) : Nat) : Int)) ∧ w' = w := by
  by_cases h0 : b = 0
  · subst h0
    go_enter Tryd.func85, Tryd.ntmps85
    go_wp2_with fail
    go_ret
    exact ⟨rfl, rfl⟩
  · have t0 : ((b : Int) == 0) = false := by rw [beq_eq_false_iff_ne]; omega
    obtain ⟨s, hs⟩ : ∃ s, 64 - b = s := ⟨_, rfl⟩
    have ws : IntKind.i64.wrap (64 - (b : Int)) = (s : Int) := by rw [wraps62 _ (by omega) (by omega)]; omega
    have i1 : (0 : Int) ≤ (s : Int) := by omega
    have min64 : min s 64 = s := by omega
    have hw : IntKind.u64.wrap (18446744073709551615 * 2 ^ s) = ((18446744073709551616 - 2 ^ s : Nat) : Int) := by
      have h1 : 0 < 2 ^ s := Nat.two_pow_pos s
      have h2 : 2 ^ s ≤ 2 ^ 64 := Nat.pow_le_pow_right (by omega) (by omega)
      have e : ((2 : Int) ^ s) = ((2 ^ s : Nat) : Int) := by push_cast; rfl
      rw [IntKind.wrap_u64, e]
      obtain ⟨P, hP⟩ : ∃ P, 2 ^ s = P := ⟨_, rfl⟩
      rw [hP] at h1 h2 ⊢
      omega
    rw [hs, ← hw]
    replace hs := hide hs
    replace h0 := hide h0
    replace hw := hide hw
    go_enter Tryd.func85, Tryd.ntmps85
    go_wp2_with fail
    go_ret
    exact ⟨rfl, rfl⟩
def clampN (a : Adr) (i : Int) : Nat := (min (max i 0) (a.w : Int)).toNat
theorem pcut_bel (b : Nat) (hb : b ≤ 64) (w : World) :
    Calls Tryd.prog 85 #[.int .i64 (b : Int)] w fun e w' => e = .returned (.int .u64 ((18446744073709551616 - 2 ^ (64 - b) : Nat) : Int)) ∧ Below w.heap.size w w' :=
  (pcut_any b hb w).mono fun _ _ h => ⟨h.1, h.2 ▸ Below.refl _ _⟩
set_option maxRecDepth 20000 in
set_option maxHeartbeats 8000000 in
theorem Mask_any (a : Adr) (ho : a.ok) (i : Int) (w : World) :
    Calls Tryd.prog 57 #[.agg #[.bool a.v6, .int .u64 (a.hi : Int), .int .u64 (a.lo : Int)], .int .i64 i] w fun e w' => e = .returned (.agg (a.mask (clampN a i)).arr) ∧ Below w.heap.size w w' := by
  obtain ⟨v, hi, lo⟩ := a
  obtain ⟨hhi, hlo⟩ := ho
  dsimp only at hhi hlo ⊢
  obtain ⟨w1, hw1⟩ : ∃ w1, w.alloc (.cells #[.bool v, .int .u64 (hi : Int), .int .u64 (lo : Int)] 26) = w1 := ⟨_, rfl⟩
  have hg1 : w1.heap[w.heap.size]? = some (.cells #[.bool v, .int .u64 (hi : Int), .int .u64 (lo : Int)] 26 (0, 0)) := hw1 ▸ blk_new _ _ _
  have hz1 : w1.heap.size = w.heap.size + 1 := by rw [← hw1]; simp
  have hB1 : Below w.heap.size w w1 := hw1 ▸ (Below.refl _ _).alloc (Nat.le_refl _) _
  obtain ⟨w2, hw2⟩ : ∃ w2, w1.alloc (.cells #[.bool false, .int .u64 0, .int .u64 0] 26) = w2 := ⟨_, rfl⟩
  have hg2 : w2.heap[w1.heap.size]? = some (.cells #[.bool false, .int .u64 0, .int .u64 0] 26 (0, 0)) := hw2 ▸ blk_new _ _ _
  have hB2' : Below w1.heap.size w1 w2 := hw2 ▸ (Below.refl _ _).alloc (Nat.le_refl _) _
  have hz2 : w1.heap.size < w2.heap.size := by rw [← hw2]; simp
  rw [hz1] at hg2
  have hg1 := blk_below hB2' (by omega) hg1
  have hB2 := hB1.trans (hB2'.mono hB1.size)
  clear hB1 hB2'
  have hz : w.heap.size + 1 < w2.heap.size := by omega
  obtain ⟨m, hm⟩ : ∃ m : Nat, max i 0 = (m : Int) := ⟨(max i 0).toNat, by omega⟩
  have hcl : clampN ⟨v, hi, lo⟩ i = min m (Adr.w ⟨v, hi, lo⟩) := by unfold clampN; rw [hm]; omega
  rw [hcl]
  clear hcl
  cases v
  · obtain ⟨B, hBm⟩ : ∃ B, min m 32 = B := ⟨_, rfl⟩
    have hBi : min (m : Int) 32 = (B : Int) := by omega
    have hres : (Adr.mask ⟨false, hi, lo⟩ (min m (Adr.w ⟨false, hi, lo⟩))) = ⟨false, hi, mkB lo (32 - B)⟩ := by
      show Adr.mask ⟨false, hi, lo⟩ (min m 32) = _
      rw [hBm]; rfl
    rw [hres]
    unfold Adr.arr
    dsimp only
    obtain ⟨c, hc⟩ : ∃ c, B + 32 = c := ⟨_, rfl⟩
    have wc' : IntKind.i64.wrap ((B : Int) + 32) = (c : Int) := by rw [wraps62 _ (by omega) (by omega)]; omega
    have hbits := fun w => Bits_any false (hi : Int) (lo : Int) w
    have q1 := fun l => pcut_bel c (by omega) l
    have hand := u64_high lo (64 - c) hlo (by omega)
    rw [show 64 - c = 32 - B by omega] at hand
    have e1 : ∀ w : World, Calls Tryd.prog 85 #[.int .i64 (c : Int)] w fun e w' => e = .returned (.int .u64 ((18446744073709551616 - 2 ^ (32 - B) : Nat) : Int)) ∧ Below w.heap.size w w' := by
      intro w
      have := q1 w
      rwa [show 64 - c = 32 - B by omega] at this
    obtain ⟨H, hH⟩ : ∃ H, 18446744073709551616 - 2 ^ (32 - B) = H := ⟨_, rfl⟩
    obtain ⟨R, hR⟩ : ∃ R, mkB lo (32 - B) = R := ⟨_, rfl⟩
    rw [hH] at hand e1
    rw [hR] at hand ⊢
    have hcg := blk_cell hg1
    clear q1 hres
    replace hg1 := hide hg1
    replace hg2 := hide hg2
    replace hB2 := hide hB2
    replace hbits := hide hbits
    replace e1 := hide e1
    replace hH := hide hH
    replace hR := hide hR
    replace hBm := hide hBm
    replace hc := hide hc
    go_enter Tryd.func57, Tryd.ntmps57
    go_wp2_with fail
    clear hw1 hw2
    refine (hbits.out w2).mono ?_
    rintro e w3 ⟨rfl, hb3⟩
    have hg13 := blk_below hb3 (by omega) hg1.out
    have hg23 := blk_below hb3 hz hg2.out
    have hB3 := hB2.out.trans (hb3.mono hB2.out.size)
    have hz3 := hb3.size
    clear hb3 hcg hg1 hg2 hB2 hbits
    have hcg := blk_cell hg13
    replace hg13 := hide hg13
    replace hg23 := hide hg23
    replace hB3 := hide hB3
    simp only [Bool.false_eq_true, if_false]
    go_upto_region 4 with fail
    have hcl := fun l : Later w3 => blk_cell (blk_below l.hb (by omega) hg13.out)
    have q := fun l : Later w3 => e1.out l.w
    clear hcg
    refine wp_region_L (by as_aux_lemma => kernel_rfl) ?_
    refine wpE_seg 0 3 (fuel := 4) (by as_aux_lemma => kernel_rfl) (fun d _ _ _ _ h => by cases d <;> exact h) (by as_aux_lemma => kernel_rfl) (by as_aux_lemma => kernel_rfl) ?_
    simp only [List.drop_zero, List.take_succ_cons, List.take_zero]
    iterate 3 (refine wpQE_step (fun K hK => ?_); go_simp; refine hK _ ?_; clear hK K)
    refine wpQE_nil ?_
    refine wpE_seg 3 2 (fuel := 2) (by as_aux_lemma => kernel_rfl) (fun d _ _ _ _ h => by cases d <;> exact h) (by as_aux_lemma => kernel_rfl) (by as_aux_lemma => kernel_rfl) ?_
    simp only [List.drop_succ_cons, List.drop_zero, List.take_succ_cons, List.take_zero]
    (refine wpQE_step (fun K hK => ?_); go_simp; apply Exists.intro; refine ⟨fun l => ?_, hK _ ?_⟩; (go_at_call 85; refine (q l).mono ?_; rintro e w' ⟨rfl, hb⟩; exact ⟨rfl, hb⟩); clear hK K)
    iterate 1 (refine wpQE_step (fun K hK => ?_); go_simp; refine hK _ ?_; clear hK K)
    refine wpQE_nil ?_
    clear hcl q
    refine wpE_end (by as_aux_lemma => kernel_rfl) (fun l2 => ?_)
    have hg14 := blk_below l2.hb (by omega) hg13.out
    have hg24 := blk_below l2.hb (by omega) hg23.out
    have hB4 := hB3.out.trans (l2.hb.mono hB3.out.size)
    have hz4 := l2.hb.size
    obtain ⟨w9, e9, hg9, g9⟩ := store_cell hg14 2 (.int .u64 (R : Int))
    have hg9 : w9.heap[w.heap.size]? = some (.cells #[.bool false, .int .u64 (hi : Int), .int .u64 (R : Int)] 26 (0, 0)) := hg9
    have c9 := blk_cell hg14 2
    have f9 := blk_free hg14 2
    replace hg9 := hide hg9
    replace g9 := hide g9
    replace hg24 := hide hg24
    replace hB4 := hide hB4
    replace hg14 := hide hg14
    refine wpT_step 5 rfl (by as_aux_lemma => kernel_rfl) (fun K hK => ?_)
    go_simp
    refine hK _ _ ?_
    clear hK K
    refine wpT_step 6 rfl (by as_aux_lemma => kernel_rfl) (fun K hK => ?_)
    go_simp
    refine hK _ _ ?_
    clear hK K
    refine wpT_done (by as_aux_lemma => kernel_rfl) ?_ 0
    have hr9 := grown_other g9.out (by omega) (by omega) hg24.out
    have hB9 : Below w.heap.size w w9 := hB4.out.trans (below_grown g9.out (by omega) (Nat.le_refl _))
    have hz9 := g9.out.size
    clear e9 c9 f9 g9 hg24 hB4 hg13 hg23 hB3 hg14
    replace hr9 := hide hr9
    replace hB9 := hide hB9
    go_upto_region 5 with fail
    apply wp_region_lit
    refine wpl_ld rfl 26 (.tmp 2) rfl w.heap.size rfl _ _ hg9.out Tryd.underlying26 rfl (by kernel_rfl) ?_
    refine wpl_st rfl 26 (.tmp 4) (.tmp 21) rfl (w.heap.size + 1) 0 rfl (#[.bool false, .int .u64 (hi : Int), .int .u64 (R : Int)]) rfl hr9.out (by simp) (by kernel_rfl) (adr_one _ _ _) fun w9 hg9 g9 => ?_
    rw [putA_whole _ _ (by rfl)] at hg9
    have hb9 : Below (w.heap.size) w w9 := (hB9.out).trans (below_grown g9 (by have := (hB9.out).size; omega) (by omega))
    have hld : (loadVar 26 ⟨w.heap.size + 1, 0, none⟩).run Tryd.prog w9 = .ok (.agg (#[.bool false, .int .u64 (hi : Int), .int .u64 (R : Int)])) w9 := by
      simpa using run_loadVar_mid w9 (w.heap.size + 1) 0 26 (#[.bool false, .int .u64 (hi : Int), .int .u64 (R : Int)]).toList _ (blk_range hg9) Tryd.underlying26 rfl (by kernel_rfl)
    clear hg9 g9
    replace hld := hide hld
    replace hb9 := hide hb9
    refine wpList_nil ?_
    go_simp
    go_wp2_with fail
    exact bodyPost_ret (v := .agg #[.bool false, .int .u64 (hi : Int), .int .u64 (R : Int)]) (by simp [results, Tryd.results57, asAddr, hld.out, Result.andThen]) rfl ⟨rfl, hb9.out⟩
  · obtain ⟨B, hBm⟩ : ∃ B, min m 128 = B := ⟨_, rfl⟩
    have hBi : min (m : Int) 128 = (B : Int) := by omega
    have hres : (Adr.mask ⟨true, hi, lo⟩ (min m (Adr.w ⟨true, hi, lo⟩))) = ⟨true, mkB hi (64 - min B 64), mkB lo (64 - (B - 64))⟩ := by
      show Adr.mask ⟨true, hi, lo⟩ (min m 128) = _
      rw [hBm]; rfl
    rw [hres]
    unfold Adr.arr
    dsimp only
    obtain ⟨c1, hc1⟩ : ∃ c, min B 64 = c := ⟨_, rfl⟩
    obtain ⟨c2, hc2⟩ : ∃ c, B - 64 = c := ⟨_, rfl⟩
    have wm1 : min (B : Int) 64 = (c1 : Int) := by omega
    have ws2 : IntKind.i64.wrap ((B : Int) - 64) = (B : Int) - 64 := by rw [IntKind.wrap_i64]; omega
    have wm2 : max ((B : Int) - 64) 0 = (c2 : Int) := by omega
    rw [hc1, hc2]
    have hbits := fun w => Bits_any true (hi : Int) (lo : Int) w
    have q1 := fun w => pcut_bel c1 (by omega) w
    have q2 := fun w => pcut_bel c2 (by omega) w
    have hand1 := u64_high hi (64 - c1) hhi (by omega)
    have hand2 := u64_high lo (64 - c2) hlo (by omega)
    obtain ⟨H1, hH1⟩ : ∃ H, 18446744073709551616 - 2 ^ (64 - c1) = H := ⟨_, rfl⟩
    obtain ⟨H2, hH2⟩ : ∃ H, 18446744073709551616 - 2 ^ (64 - c2) = H := ⟨_, rfl⟩
    obtain ⟨R1, hR1⟩ : ∃ R, mkB hi (64 - c1) = R := ⟨_, rfl⟩
    obtain ⟨R2, hR2⟩ : ∃ R, mkB lo (64 - c2) = R := ⟨_, rfl⟩
    rw [hH1] at hand1 q1
    rw [hH2] at hand2 q2
    rw [hR1] at hand1 ⊢
    rw [hR2] at hand2 ⊢
    have hcg := blk_cell hg1
    clear hres
    replace hg1 := hide hg1
    replace hg2 := hide hg2
    replace hB2 := hide hB2
    replace hbits := hide hbits
    replace q1 := hide q1
    replace q2 := hide q2
    replace hH1 := hide hH1
    replace hH2 := hide hH2
    replace hR1 := hide hR1
    replace hR2 := hide hR2
    replace hBm := hide hBm
    replace hc1 := hide hc1
    replace hc2 := hide hc2
    go_enter Tryd.func57, Tryd.ntmps57
    go_wp2_with fail
    clear hw1 hw2
    refine (hbits.out w2).mono ?_
    rintro e w3 ⟨rfl, hb3⟩
    have hg13 := blk_below hb3 (by omega) hg1.out
    have hg23 := blk_below hb3 hz hg2.out
    have hB3 := hB2.out.trans (hb3.mono hB2.out.size)
    have hz3 := hb3.size
    clear hb3 hcg hg1 hg2 hB2 hbits
    have hcg := blk_cell hg13
    replace hg13 := hide hg13
    replace hg23 := hide hg23
    replace hB3 := hide hB3
    simp only [if_true]
    go_upto_region 6 with fail
    have hcl := fun l : Later w3 => blk_cell (blk_below l.hb (by omega) hg13.out)
    have q := fun l : Later w3 => q1.out l.w
    clear hcg
    refine wp_region_L (by as_aux_lemma => kernel_rfl) ?_
    refine wpE_seg 0 4 (fuel := 4) (by as_aux_lemma => kernel_rfl) (fun d _ _ _ _ h => by cases d <;> exact h) (by as_aux_lemma => kernel_rfl) (by as_aux_lemma => kernel_rfl) ?_
    simp only [List.drop_zero, List.take_succ_cons, List.take_zero]
    iterate 4 (refine wpQE_step (fun K hK => ?_); go_simp; refine hK _ ?_; clear hK K)
    refine wpQE_nil ?_
    refine wpE_seg 4 2 (fuel := 2) (by as_aux_lemma => kernel_rfl) (fun d _ _ _ _ h => by cases d <;> exact h) (by as_aux_lemma => kernel_rfl) (by as_aux_lemma => kernel_rfl) ?_
    simp only [List.drop_succ_cons, List.drop_zero, List.take_succ_cons, List.take_zero]
    (refine wpQE_step (fun K hK => ?_); go_simp; apply Exists.intro; refine ⟨fun l => ?_, hK _ ?_⟩; (go_at_call 85; refine (q l).mono ?_; rintro e w' ⟨rfl, hb⟩; exact ⟨rfl, hb⟩); clear hK K)
    iterate 1 (refine wpQE_step (fun K hK => ?_); go_simp; refine hK _ ?_; clear hK K)
    refine wpQE_nil ?_
    clear hcl q
    refine wpE_end (by as_aux_lemma => kernel_rfl) (fun l2 => ?_)
    have hg14 := blk_below l2.hb (by omega) hg13.out
    have hg24 := blk_below l2.hb (by omega) hg23.out
    have hB4 := hB3.out.trans (l2.hb.mono hB3.out.size)
    have hz4 := l2.hb.size
    obtain ⟨w9, e9, hg9, g9⟩ := store_cell hg14 1 (.int .u64 (R1 : Int))
    have hg9 : w9.heap[w.heap.size]? = some (.cells #[.bool true, .int .u64 (R1 : Int), .int .u64 (lo : Int)] 26 (0, 0)) := hg9
    have c9 := blk_cell hg14 1
    have f9 := blk_free hg14 1
    replace hg9 := hide hg9
    replace g9 := hide g9
    replace hg24 := hide hg24
    replace hB4 := hide hB4
    replace hg14 := hide hg14
    refine wpT_step 6 rfl (by as_aux_lemma => kernel_rfl) (fun K hK => ?_)
    go_simp
    refine hK _ _ ?_
    clear hK K
    refine wpT_step 7 rfl (by as_aux_lemma => kernel_rfl) (fun K hK => ?_)
    go_simp
    refine hK _ _ ?_
    clear hK K
    refine wpT_done (by as_aux_lemma => kernel_rfl) ?_ 0
    have hr9 := grown_other g9.out (by omega) (by omega) hg24.out
    have hB9 : Below w.heap.size w w9 := hB4.out.trans (below_grown g9.out (by omega) (Nat.le_refl _))
    have hz9 := g9.out.size
    clear e9 c9 f9 g9 hg24 hB4 hg13 hg23 hB3 hg14
    replace hr9 := hide hr9
    replace hB9 := hide hB9
    go_upto_region 7 with fail
    have hcl := fun l : Later w9 => blk_cell (blk_below l.hb (by omega) hg9.out)
    have q := fun l : Later w9 => q2.out l.w
    refine wp_region_L (by as_aux_lemma => kernel_rfl) ?_
    refine wpE_seg 0 5 (fuel := 4) (by as_aux_lemma => kernel_rfl) (fun d _ _ _ _ h => by cases d <;> exact h) (by as_aux_lemma => kernel_rfl) (by as_aux_lemma => kernel_rfl) ?_
    simp only [List.drop_zero, List.take_succ_cons, List.take_zero]
    iterate 5 (refine wpQE_step (fun K hK => ?_); go_simp; refine hK _ ?_; clear hK K)
    refine wpQE_nil ?_
    refine wpE_seg 5 2 (fuel := 2) (by as_aux_lemma => kernel_rfl) (fun d _ _ _ _ h => by cases d <;> exact h) (by as_aux_lemma => kernel_rfl) (by as_aux_lemma => kernel_rfl) ?_
    simp only [List.drop_succ_cons, List.drop_zero, List.take_succ_cons, List.take_zero]
    (refine wpQE_step (fun K hK => ?_); go_simp; apply Exists.intro; refine ⟨fun l => ?_, hK _ ?_⟩; (go_at_call 85; refine (q l).mono ?_; rintro e w' ⟨rfl, hb⟩; exact ⟨rfl, hb⟩); clear hK K)
    iterate 1 (refine wpQE_step (fun K hK => ?_); go_simp; refine hK _ ?_; clear hK K)
    refine wpQE_nil ?_
    clear hcl q
    refine wpE_end (by as_aux_lemma => kernel_rfl) (fun l3 => ?_)
    have hg15 := blk_below l3.hb (by omega) hg9.out
    have hg25 := blk_below l3.hb (by omega) hr9.out
    have hB5 := hB9.out.trans (l3.hb.mono hB9.out.size)
    have hz5 := l3.hb.size
    obtain ⟨w10, e10, hg10, g10⟩ := store_cell hg15 2 (.int .u64 (R2 : Int))
    have hg10 : w10.heap[w.heap.size]? = some (.cells #[.bool true, .int .u64 (R1 : Int), .int .u64 (R2 : Int)] 26 (0, 0)) := hg10
    have c10 := blk_cell hg15 2
    have f10 := blk_free hg15 2
    replace hg10 := hide hg10
    replace g10 := hide g10
    replace hg25 := hide hg25
    replace hB5 := hide hB5
    replace hg15 := hide hg15
    refine wpT_step 7 rfl (by as_aux_lemma => kernel_rfl) (fun K hK => ?_)
    go_simp
    refine hK _ _ ?_
    clear hK K
    refine wpT_step 8 rfl (by as_aux_lemma => kernel_rfl) (fun K hK => ?_)
    go_simp
    refine hK _ _ ?_
    clear hK K
    refine wpT_done (by as_aux_lemma => kernel_rfl) ?_ 0
    have hr10 := grown_other g10.out (by omega) (by omega) hg25.out
    have hB10 : Below w.heap.size w w10 := hB5.out.trans (below_grown g10.out (by omega) (Nat.le_refl _))
    clear e10 c10 f10 g10 hg25 hB5 hr9 hB9 hg9 hg15
    replace hr10 := hide hr10
    replace hB10 := hide hB10
    go_upto_region 8 with fail
    apply wp_region_lit
    refine wpl_ld rfl 26 (.tmp 2) rfl w.heap.size rfl _ _ hg10.out Tryd.underlying26 rfl (by kernel_rfl) ?_
    refine wpl_st rfl 26 (.tmp 4) (.tmp 37) rfl (w.heap.size + 1) 0 rfl (#[.bool true, .int .u64 (R1 : Int), .int .u64 (R2 : Int)]) rfl hr10.out (by simp) (by kernel_rfl) (adr_one _ _ _) fun w9 hg9 g9 => ?_
    rw [putA_whole _ _ (by rfl)] at hg9
    have hb9 : Below (w.heap.size) w w9 := (hB10.out).trans (below_grown g9 (by have := (hB10.out).size; omega) (by omega))
    have hld : (loadVar 26 ⟨w.heap.size + 1, 0, none⟩).run Tryd.prog w9 = .ok (.agg (#[.bool true, .int .u64 (R1 : Int), .int .u64 (R2 : Int)])) w9 := by
      simpa using run_loadVar_mid w9 (w.heap.size + 1) 0 26 (#[.bool true, .int .u64 (R1 : Int), .int .u64 (R2 : Int)]).toList _ (blk_range hg9) Tryd.underlying26 rfl (by kernel_rfl)
    clear hg9 g9
    replace hld := hide hld
    replace hb9 := hide hb9
    refine wpList_nil ?_
    go_simp
    go_wp2_with fail
    exact bodyPost_ret (v := .agg #[.bool true, .int .u64 (R1 : Int), .int .u64 (R2 : Int)]) (by simp [results, Tryd.results57, asAddr, hld.out, Result.andThen]) rfl ⟨rfl, hb9.out⟩
end Addr05
end Go.Proofs.YtbcicbiphgeghaaDoor
/- addr: which addresses may be, as the code and the law say; the law's awake. Condition: the cell of bytealg.MaxLen. -/
namespace Go.Proofs.YtbcicbiphgeghaaDoor
open Go.RowKit Go.ChangeShapes Go.WideShapes Go.ChangeAt Go.Deep
namespace Addr05
def rightB (v6 : Bool) (hi lo : Nat) : Bool := v6 || (decide (hi = 0) && decide (lo < 4294967296))
theorem rightB_iff (a : Adr) : rightB a.v6 a.hi a.lo = true ↔ a.right := by
  unfold rightB Adr.right
  simp
set_option maxRecDepth 20000 in
theorem Right_any (v6 : Bool) (hi lo : Nat) (w : World) :
    Calls Tryd.prog 55 #[.agg #[.bool v6, .int .u64 (hi : Int), .int .u64 (lo : Int)]] w fun e w' => e = .returned (.bool (rightB v6 hi lo)) ∧ Below w.heap.size w w' := by
  have t1 : ((hi : Int) == 0) = decide (hi = 0) := by rw [Bool.eq_iff_iff]; simp
  have t2 : decide ((lo : Int) < 4294967296) = decide (lo < 4294967296) := by rw [Bool.eq_iff_iff]; simp; omega
  unfold rightB
  obtain ⟨b1, hb1⟩ : ∃ b, decide (hi = 0) = b := ⟨_, rfl⟩
  obtain ⟨b2, hb2⟩ : ∃ b, decide (lo < 4294967296) = b := ⟨_, rfl⟩
  rw [hb1] at t1 ⊢
  rw [hb2] at t2 ⊢
  clear hb1 hb2
  cases v6
  · cases b1
    · go_enter Tryd.func55, Tryd.ntmps55
      go_wp2_with fail
      go_ret
      exact ⟨rfl, (Below.refl _ _).alloc (Nat.le_refl _) _⟩
    · go_enter Tryd.func55, Tryd.ntmps55
      go_wp2_with fail
      go_ret
      exact ⟨rfl, (Below.refl _ _).alloc (Nat.le_refl _) _⟩
  · go_enter Tryd.func55, Tryd.ntmps55
    go_wp2_with fail
    go_ret
    exact ⟨rfl, (Below.refl _ _).alloc (Nat.le_refl _) _⟩
theorem parse1 (w : World) (hm : MaxAt w) : Calls Tryd.prog 81 #[.string ⟨#[58, 58, 49]⟩] w fun e w' => e = .returned (.tuple #[.agg #[.bool true, .int .u64 0, .int .u64 1], .int .i64 0]) ∧ Below w.heap.size w w' := by
  have h := Parse_any [58, 58, 49] (by decide) w hm
  rw [show parseF [58, 58, 49] = some ⟨true, 0, 1⟩ by kernel_rfl] at h
  exact h
theorem parse2 (w : World) (hm : MaxAt w) : Calls Tryd.prog 81 #[.string ⟨#[48, 58, 48, 58, 58, 49]⟩] w fun e w' => e = .returned (.tuple #[.agg #[.bool false, .int .u64 0, .int .u64 0], .int .i64 18]) ∧ Below w.heap.size w w' := by
  have h := Parse_any [48, 58, 48, 58, 58, 49] (by decide) w hm
  rw [show parseF [48, 58, 48, 58, 58, 49] = none by kernel_rfl] at h
  exact h
end Addr05
end Go.Proofs.YtbcicbiphgeghaaDoor
