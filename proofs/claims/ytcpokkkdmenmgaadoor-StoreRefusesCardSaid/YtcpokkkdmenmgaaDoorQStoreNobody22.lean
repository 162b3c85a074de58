/- The walk of StoreNobody. No condition. -/
import Derived.Test.YtcpokkkdmenmgaaDoorQStoreNobody21
namespace Go.Proofs.YtcpokkkdmenmgaaDoor
open Go.RowKit Go.ChangeShapes Go.WideShapes Go.ChangeAt Go.Deep
namespace Store20
open Conf18 (Nd Vp Vw Cfg zA MapI lt_of_blk confF)
open Addr05 (Adr MaxAt)
open Val19
theorem load_nil (t : ByteArray) (w : World) : Calls Tryd.prog 13 #[.pointer none, .string t] w fun e w' => e = .returned (.tuple #[.int .i64 0, .int .i64 9]) ∧ w' = w := by
  have q := none_nil w
  replace q := hide q
  go_enter Tryd.func13, Tryd.ntmps13
  go_wp2_with fail
  refine (q.out).mono ?_
  rintro e w ⟨rfl, rfl⟩
  clear q
  go_wp2_with fail
  go_ret2
  exact ⟨rfl, rfl⟩
theorem gen_nil (w : World) : Calls Tryd.prog 17 #[.pointer none] w fun e w' => e = .returned (.int .i64 0) ∧ w' = w := by
  have q := none_nil w
  replace q := hide q
  go_enter Tryd.func17, Tryd.ntmps17
  go_wp2_with fail
  refine (q.out).mono ?_
  rintro e w ⟨rfl, rfl⟩
  clear q
  go_wp2_with fail
  go_ret
  exact ⟨rfl, rfl⟩
theorem now_nil (w : World) : Calls Tryd.prog 18 #[.pointer none] w fun e w' => e = .returned (.pointer none) ∧ w' = w := by
  have q := none_nil w
  replace q := hide q
  go_enter Tryd.func18, Tryd.ntmps18
  go_wp2_with fail
  refine (q.out).mono ?_
  rintro e w ⟨rfl, rfl⟩
  clear q
  go_wp2_with fail
  go_ret
  exact ⟨rfl, rfl⟩
theorem begin_nil (w : World) : Calls Tryd.prog 19 #[.pointer none] w fun e w' => e = .returned (.pointer none) ∧ w' = w := by
  have q := none_nil w
  replace q := hide q
  go_enter Tryd.func19, Tryd.ntmps19
  go_wp2_with fail
  refine (q.out).mono ?_
  rintro e w ⟨rfl, rfl⟩
  clear q
  go_wp2_with fail
  go_ret
  exact ⟨rfl, rfl⟩
theorem begin_none (s : Nat) (c0 c1 c2 : Value) (w : World) (h : w.heap[s]? = some (.cells #[c0, c1, c2, .bool false] 45 (0, 0))) : Calls Tryd.prog 19 #[.pointer (some ⟨s, 0, none⟩)] w fun e w' => e = .returned (.pointer none) ∧ w' = w := by
  have q := none_is s c0 c1 c2 false w h
  clear h
  replace q := hide q
  go_enter Tryd.func19, Tryd.ntmps19
  go_wp2_with fail
  refine (q.out).mono ?_
  rintro e w ⟨rfl, rfl⟩
  clear q
  go_wp2_with fail
  go_ret
  exact ⟨rfl, rfl⟩
theorem weight_none (s : Nat) (c0 c1 c2 : Value) (y : ByteArray) (x : Int) (w : World) (h : w.heap[s]? = some (.cells #[c0, c1, c2, .bool false] 45 (0, 0))) : Calls Tryd.prog 16 #[.pointer (some ⟨s, 0, none⟩), .string y, .int .i64 x] w fun e w' => e = .returned (.int .i64 9) ∧ w' = w := by
  have q := none_is s c0 c1 c2 false w h
  clear h
  replace q := hide q
  go_enter Tryd.func16, Tryd.ntmps16
  go_wp2_with fail
  refine (q.out).mono ?_
  rintro e w ⟨rfl, rfl⟩
  clear q
  go_wp2_with fail
  go_ret
  exact ⟨rfl, rfl⟩
theorem commit_nil (w : World) : Calls Tryd.prog 20 #[.pointer none] w fun e w' => e = .returned (.int .i64 9) ∧ w' = w := by
  go_enter Tryd.func20, Tryd.ntmps20
  go_wp2_with fail
  go_ret
  exact ⟨rfl, rfl⟩
theorem addT_more (T : Tx) (c : Ch) (i : Nat) (ho : T.over = false) (hl : T.list.length = min i 64) : ∃ T', addT T c = (T', if i < 64 then 0 else 6) ∧ T'.over = false ∧ T'.list.length = min (i + 1) 64 := by
  unfold addT
  rw [if_neg (by rw [ho]; decide)]
  by_cases h : i < 64
  · rw [if_neg (by omega), if_pos h]
    exact ⟨_, rfl, ho, by simp only [List.length_append, List.length_singleton]; omega⟩
  · rw [if_pos (by omega), if_neg h]
    exact ⟨_, rfl, ho, by omega⟩
set_option maxRecDepth 20000 in
set_option maxHeartbeats 16000000 in
theorem nobody_walk (n : Int) (y : List UInt8) (w : World) (hM : MaxAt w) :
    Calls Tryd.prog 4 #[.int .i64 n, .string (str y)] w fun e w' => e = .returned (.bool true) ∧ Below w.heap.size w w' := by
  obtain ⟨w1, hw1⟩ : ∃ w1, w.alloc (.cells #[.pointer none, .int .i64 0, .map none, .bool false] 45) = w1 := ⟨_, rfl⟩
  have hb1 : Below w.heap.size w w1 := hw1 ▸ (Below.refl _ _).alloc (Nat.le_refl _) _
  have hg1 : w1.heap[w.heap.size]? = some (.cells #[.pointer none, .int .i64 0, .map none, .bool false] 45 (0, 0)) := hw1 ▸ blk_new _ _ _
  have hM1 := hM.below hb1
  have a1 := load_nil ⟨#[108, 101, 118, 101, 108, 32, 97]⟩ w1
  have a2 := set_none w.heap.size _ _ _ y hg1
  have a3 := drop_nil w1
  have a4 := weight_none w.heap.size _ _ _ (str y) 1 w1 hg1
  have a5 := gen_nil w1
  have a6 := gen_none w.heap.size _ _ _ hg1
  have a7 := now_nil w1
  have a8 := begin_nil w1
  have a9 := begin_none w.heap.size _ _ _ w1 hg1
  have a10 := commit_nil w1
  have a11 := xload_nil [] w1
  rw [show str [] = ⟨#[]⟩ from rfl] at a11
  clear hg1
  replace hM := hide hM
  replace hb1 := hide hb1
  replace hM1 := hide hM1
  replace a1 := hide a1
  replace a2 := hide a2
  replace a3 := hide a3
  replace a4 := hide a4
  replace a5 := hide a5
  replace a6 := hide a6
  replace a7 := hide a7
  replace a8 := hide a8
  replace a9 := hide a9
  replace a10 := hide a10
  replace a11 := hide a11
  go_enter Tryd.func4, Tryd.ntmps4
  go_upto_region 3 with fail
  clear hw1
  go_wp2_with fail
  refine (a1.out).mono ?_
  rintro e w1 ⟨rfl, rfl⟩
  clear a1
  go_wp2_with fail
  refine (a2.out).mono ?_
  rintro e w1 ⟨rfl, rfl⟩
  clear a2
  go_wp2_with fail
  refine (a3.out).mono ?_
  rintro e w1 ⟨rfl, rfl⟩
  clear a3
  go_wp2_with fail
  refine (a4.out).mono ?_
  rintro e w1 ⟨rfl, rfl⟩
  clear a4
  go_wp2_with fail
  refine (a5.out).mono ?_
  rintro e w1 ⟨rfl, rfl⟩
  clear a5
  go_wp2_with fail
  refine (a6.out).mono ?_
  rintro e w1 ⟨rfl, rfl⟩
  clear a6
  go_wp2_with fail
  refine (a7.out).mono ?_
  rintro e w1 ⟨rfl, rfl⟩
  clear a7
  go_wp2_with fail
  refine (a8.out).mono ?_
  rintro e w1 ⟨rfl, rfl⟩
  clear a8
  go_wp2_with fail
  refine (a9.out).mono ?_
  rintro e w1 ⟨rfl, rfl⟩
  clear a9
  go_wp2_with fail
  refine (a10.out).mono ?_
  rintro e w1 ⟨rfl, rfl⟩
  clear a10
  go_wp2_with fail
  refine (a11.out).mono ?_
  rintro e w2 ⟨rfl, hb2⟩
  clear a11
  have hM2 := hM1.out.below hb2
  have hB2 := hb1.out.trans (hb2.mono hb1.out.size)
  clear hb1 hM1 hb2
  by_cases h1 : n < 60
  · have qa := sawake_any w2 hM2
    clear hM2
    replace hB2 := hide hB2
    replace qa := hide qa
    go_wp2_with fail
    refine (qa.out).mono ?_
    rintro e w3 ⟨rfl, hb3⟩
    have hB3 := hB2.out.trans (hb3.mono hB2.out.size)
    clear qa hB2 hb3
    replace hB3 := hide hB3
    go_wp2_with fail
    go_ret
    exact ⟨rfl, hB3.out⟩
  by_cases h2 : 70 < n
  · have qa := sawake_any w2 hM2
    clear hM2
    replace hB2 := hide hB2
    replace qa := hide qa
    go_wp2_with fail
    refine (qa.out).mono ?_
    rintro e w3 ⟨rfl, hb3⟩
    have hB3 := hB2.out.trans (hb3.mono hB2.out.size)
    clear qa hB2 hb3
    replace hB3 := hide hB3
    go_wp2_with fail
    go_ret
    exact ⟨rfl, hB3.out⟩
  obtain ⟨m, rfl⟩ : ∃ m : Nat, n = (m : Int) := ⟨n.toNat, by omega⟩
  have q1 := snew_any w2
  replace q1 := hide q1
  replace hM2 := hide hM2
  replace hB2 := hide hB2
  go_wp2_with fail
  refine (q1.out).mono ?_
  rintro e w3 ⟨s, mp, rfl, hs, hmp, hS3, hb3⟩
  have hM3 := hM2.out.below hb3
  have hz2 := hB2.out.size
  have hB3 := hB2.out.trans (hb3.mono hz2)
  have q2 := begin_any hS3 w.heap.size hB3.size
  clear q1 hM2 hB2 hb3 hS3
  replace q2 := hide q2
  replace hM3 := hide hM3
  replace hB3 := hide hB3
  go_wp2_with fail
  refine (q2.out).mono ?_
  rintro e w4 ⟨rfl, hT4, hb4⟩
  have hM4 := hM3.out.below hb4
  have hB4 := hB3.out.trans (hb4.mono hB3.out.size)
  obtain ⟨t, ht⟩ : ∃ t, w3.heap.size = t := ⟨_, rfl⟩
  rw [ht] at hT4
  clear q2 hM3 hB3 hb4
  replace hT4 := hide hT4
  replace hM4 := hide hM4
  replace hB4 := hide hB4
  go_wp2_with fail
  go_loopw [13] (fun iv wr => ∃ (i : Nat) (T : Tx) (lv : Value), i ≤ m ∧ iv = .int .i64 ((i : Int) + 1) ∧ T.over = false ∧ T.list.length = min i 64 ∧ TxC wr w.heap.size t s lv T ∧ MaxAt wr ∧ Below w.heap.size w wr) (fun iv _ => m + 1 - (intOf iv).toNat)
  case atStart => exact ⟨0, _, _, by omega, rfl, rfl, rfl, hT4.out, hM4.out, hB4.out⟩
  case round =>
    obtain ⟨i, T, lv, hi, rfl, ho, hl, hT, hMr, hBr⟩ := hrel
    by_cases hin : i < m
    · have hlt : (i : Int) + 1 ≤ (m : Int) := by omega
      have wi1 : IntKind.i64.wrap ((i : Int) + 1 + 1) = (i : Int) + 1 + 1 := by rw [wraps62 _ (by omega) (by omega)]
      obtain ⟨T', e1, e2, e3⟩ := addT_more T ⟨[], [97], 1⟩ i ho hl
      have q := xweight_any T [97] 1 wr hT
      rw [e1] at q
      unfold str at q
      dsimp only at q
      have hrow := fun k (hk : lv.ownBlock = some k) => (World.ownsRow.lt hT.row k hk).1
      have htb := hT.hb
      have htm := hT.max hMr
      clear e1 hT
      have hfr : ∀ w', TxTo wr w' w.heap.size t s lv T' → (∃ lv', TxC w' w.heap.size t s lv' T') ∧ MaxAt w' ∧ Below w.heap.size w w' := by
        rintro w' ⟨lv', a1, a2, a3⟩
        refine ⟨⟨lv', a1⟩, ?_, below_step hBr a3 hBr.size (fun k hk e => ?_)⟩
        · refine StC.maxAt hMr a3 (fun e => ?_)
          rcases e with e | e
          · exact htm e.symm
          · have h7 := hrow _ e
            obtain ⟨mm, hm⟩ := hM.out
            have h8 := World.block_lt_of_cell? w _ hm
            dsimp only at h8
            omega
        · rcases e with e | e
          · omega
          · have := hrow _ e
            omega
      clear hrow hMr hBr
      replace q := hide q
      replace hfr := hide hfr
      by_cases hi64 : i < 64
      · have hle : (i : Int) + 1 ≤ 64 := by omega
        rw [if_pos hi64] at q
        go_wp2_with fail
        refine (q.out).mono ?_
        rintro e w5 ⟨rfl, h5⟩
        obtain ⟨⟨lv', hT5⟩, hM5, hB5⟩ := hfr.out _ h5
        clear q hfr h5
        replace hT5 := hide hT5
        replace hM5 := hide hM5
        replace hB5 := hide hB5
        go_wp2_with fail
        exact ⟨⟨i + 1, T', lv', by omega, rfl, e2, e3, hT5.out, hM5.out, hB5.out⟩, by simp only [intOf]; omega⟩
      · have hle : ¬ ((i : Int) + 1 ≤ 64) := by omega
        rw [if_neg hi64] at q
        go_wp2_with fail
        refine (q.out).mono ?_
        rintro e w5 ⟨rfl, h5⟩
        obtain ⟨⟨lv', hT5⟩, hM5, hB5⟩ := hfr.out _ h5
        clear q hfr h5
        replace hT5 := hide hT5
        replace hM5 := hide hM5
        replace hB5 := hide hB5
        go_wp2_with fail
        exact ⟨⟨i + 1, T', lv', by omega, rfl, e2, e3, hT5.out, hM5.out, hB5.out⟩, by simp only [intOf]; omega⟩
    · have hlt : ¬((i : Int) + 1 ≤ (m : Int)) := by omega
      have qa := sawake_any wr hMr
      clear hT hMr
      replace qa := hide qa
      replace hBr := hide hBr
      go_wp2_with fail
      refine (qa.out).mono ?_
      rintro e w5 ⟨rfl, hb5⟩
      have hB5 := hBr.out.trans (hb5.mono hBr.out.size)
      clear qa hBr hb5
      replace hB5 := hide hB5
      go_wp2_with fail
      go_ret
      exact ⟨rfl, hB5.out⟩
theorem nobody_row (n : Int) (y : ByteArray) (w : World) (hw : (Lit.int .i64 n).wf = true) (hy : y.size ≤ maxLen) (hM : MaxAt w) :
    Calls Tryd.prog 4 #[.int .i64 n, .string y] w fun e w' => e = .returned (.bool true) ∧ Below w.heap.size w w' := by
  have h := nobody_walk n y.data.toList w hM
  rw [show str y.data.toList = y by cases y; rfl] at h
  exact h
end Store20
end Go.Proofs.YtcpokkkdmenmgaaDoor
