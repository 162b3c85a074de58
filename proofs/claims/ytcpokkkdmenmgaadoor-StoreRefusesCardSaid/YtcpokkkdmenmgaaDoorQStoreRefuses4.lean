/- The walk of StoreRefuses. No condition. -/
import Derived.Test.YtcpokkkdmenmgaaDoorQStoreRefuses3
import Derived.Test.YtcpokkkdmenmgaaDoorQStoreRefuses1
namespace Go.Proofs.YtcpokkkdmenmgaaDoor
open Go.RowKit Go.ChangeShapes Go.WideShapes Go.ChangeAt Go.Deep
namespace Store20
open Conf18 (Nd Vp Vw Cfg zA MapI lt_of_blk confF cfC CfgR CfgV zeroC)
open Addr05 (Adr MaxAt)
open Val19
def P0 : Pl := ⟨zeroC, false, 0, [], false, false, 0, []⟩
theorem rel0 : Rel 0 S0 P0 none := ⟨⟨rfl, rfl, by funext y; rfl⟩, ⟨(fun h => by cases h), Nat.zero_le _⟩, Nat.le_refl _, Nat.le_refl _, rfl, rfl⟩
theorem step_none {Z : Nat → Prop} {w w' : World} {B s p m : Nat} (h : StepTo Z w w' B s p m (.pointer none)) : ∃ S P, ScE w' Z B s p m (.pointer none) S P none ∧ Rel m S P none ∧ Below B w w' := by
  obtain ⟨S, P, TO, h1, h2, h3, -⟩ := h
  rcases TO with _ | T
  · exact ⟨S, P, h1, h2, h3⟩
  · obtain ⟨mp, lo, hi, n, nv, a1, a2, a3, sv, wv, h⟩ := h1
    obtain ⟨t, lv, e, -⟩ := h.tx
    cases e
theorem chS_some {S : St} {c : Ch} (h : (chS S c).2 = 0) : (chS S c).1.c ≠ none := by
  unfold chS at h ⊢
  split
  · rename_i hn
    rw [if_pos hn] at h
    unfold loadS at h ⊢
    rcases e : confF c.text with p | c2
    · rw [e] at h
      exact absurd h (confF_err e)
    · rw [e] at h
      dsimp only at h ⊢
      split
      · rename_i hv
        rw [if_pos hv] at h
        exact absurd h (by simp only; omega)
      · intro e2; cases e2
  · rename_i hn
    rw [if_neg hn] at h
    unfold weightS at h ⊢
    rcases e : S.c with _ | c2
    · rw [e] at h; cases h
    · rw [e] at h
      dsimp only at h ⊢
      split
      · rename_i hx
        rw [if_pos hx] at h; cases h
      · rename_i hx
        rw [if_neg hx] at h
        rcases e2 : hostOf c2.nodes c.name with _ | k
        · rw [e2] at h; cases h
        · intro e3; cases e3
theorem runS_some : ∀ (l : List Ch) (S S' : St), runS S l = .ok S' → l ≠ [] → S'.c ≠ none
  | [], _, _, _, h => absurd rfl h
  | [c], S, S', h, _ => by
    rw [runS] at h
    split at h
    · rename_i h0
      cases h
      exact chS_some h0
    · cases h
  | c :: d :: l, S, S', h, _ => by
    rw [runS] at h
    split at h
    · exact runS_some (d :: l) _ _ h (by simp)
    · cases h
theorem runS_ne : ∀ (l : List Ch) (S : St) (e : Int), runS S l = .error e → e ≠ 0
  | [], _, _, h => by cases h
  | c :: l, S, e, h => by
    rw [runS] at h
    split at h
    · exact runS_ne l _ e h
    · rename_i h0
      cases h
      exact h0
theorem com_cases (S : St) (L : List Ch) : ((commitS S ⟨S.gen, L, false⟩).1 = S ∧ ((commitS S ⟨S.gen, L, false⟩).2 ≠ 0 ∨ L.length = 0)) ∨ ((commitS S ⟨S.gen, L, false⟩).2 = 0 ∧ L.length ≠ 0 ∧ (commitS S ⟨S.gen, L, false⟩).1.c ≠ none ∧ (commitS S ⟨S.gen, L, false⟩).1.gen = S.gen + 1) := by
  unfold commitS
  rw [if_neg (show ¬(⟨S.gen, L, false⟩ : Tx).over = true by simp), if_neg (show ¬(⟨S.gen, L, false⟩ : Tx).gen ≠ S.gen by simp)]
  dsimp only
  by_cases hL : L = []
  · subst hL
    exact .inl ⟨rfl, .inr rfl⟩
  · rcases e : runS S L with e1 | S'
    · exact .inl ⟨rfl, .inl (runS_ne L S e1 e)⟩
    · right
      dsimp only
      rw [if_neg hL]
      exact ⟨rfl, fun h => hL (List.length_eq_zero_iff.1 h), runS_some L S S' e hL, rfl⟩
set_option maxRecDepth 20000 in
set_option maxHeartbeats 16000000 in
theorem refuses_walk (A1 A2 : Option Addr) (n1 c1 n2 c2 : Nat) (es ws : List Wo) (w : World) (h1 : IsT woC 4 w w.heap.size A1 n1 es) (hf1 : ∀ x ∈ es, Wo.fits x) (hc1 : n1 ≤ c1 ∧ c1 ≤ maxLen) (h2 : IsT woC 4 w w.heap.size A2 n2 ws) (hf2 : ∀ x ∈ ws, Wo.fits x) (hc2 : n2 ≤ c2 ∧ c2 ≤ maxLen) (hM : MaxAt w) :
    Calls Tryd.prog 5 #[.slice A1 n1 c1, .slice A2 n2 c2] w fun e w' => e = .returned (.bool true) ∧ Below w.heap.size w w' := by
  have hl1 := h1.1
  have hl2 := h2.1
  have hmx : n1 ≤ 9223372036854775807 ∧ n2 ≤ 9223372036854775807 := by unfold maxLen at hc1 hc2; omega
  have q1 := snew_any w
  have hmb : 0 < w.heap.size := by
    obtain ⟨m, hm⟩ := hM
    exact World.block_lt_of_cell? w _ hm
  replace h1 := hide h1
  replace h2 := hide h2
  replace hf1 := hide hf1
  replace hf2 := hide hf2
  replace q1 := hide q1
  replace hM := hide hM
  go_enter Tryd.func5, Tryd.ntmps5
  go_wp2_with fail
  refine (q1.out).mono ?_
  rintro e w1 ⟨s, mp, rfl, hs, hmp, hS1, hb1⟩
  obtain ⟨w2, hw2⟩ : ∃ w2, w1.alloc (.cells (plA P0 (.slice none 0 0) (.slice none 0 0) (.slice none 0 0) (.slice none 0 0) (.slice none 0 0)) 63) = w2 := ⟨_, rfl⟩
  have hb2 : Below w1.heap.size w1 w2 := hw2 ▸ (Below.refl _ _).alloc (Nat.le_refl _) _
  have hg2 : w2.heap[w1.heap.size]? = some (.cells (plA P0 (.slice none 0 0) (.slice none 0 0) (.slice none 0 0) (.slice none 0 0) (.slice none 0 0)) 63 (0, 0)) := hw2 ▸ blk_new _ _ _
  have hM2 := (hM.out.below hb1).below hb2
  have hB2 := hb1.trans (hb2.mono hb1.size)
  have hS2 := hS1.below hb2
  obtain ⟨p, hp⟩ : ∃ p, w1.heap.size = p := ⟨_, rfl⟩
  rw [hp] at hg2
  have hsc : ScE w2 (fun _ => False) w.heap.size s p 0 (.pointer none) S0 P0 none :=
    ⟨mp, _, _, 0, _, _, _, _, _, _, hS2, ⟨hg2, ⟨World.ownsRow_nil _ _ _ _, World.ownsRow_nil _ _ _ _, World.ownsRow_nil _ _ _ _, World.ownsRow_nil _ _ _ _, World.ownsRow_nil _ _ _ _⟩, by have := hb1.size; omega⟩, rfl, ⟨hs, hmp⟩, Nat.le_refl _, .inr (by have := hb1.size; omega), (fun k hk => by cases hk), hM2, hmb, fun k hk => hk.elim⟩
  replace hw2 : w1.alloc (.cells #[.slice none 0 0, .slice none 0 0, .slice none 0 0, .int .i64 0, .int .i64 0, .bool false, .int .u64 0, .int .u64 0, .bool false, .int .u64 0, .int .u64 0, .bool false, .int .i64 0, .slice none 0 0, .bool false, .bool false, .int .i64 0, .slice none 0 0] 63) = w2 := hw2
  clear q1 hb1 hb2 hg2 hM2 hS1 hS2
  replace hsc := hide hsc
  replace hB2 := hide hB2
  go_upto_region 3 with fail
  clear hw2 hp
  go_wp2_with fail
  go_loopw [7] (fun iv wr => ∃ (i : Nat) (S : St) (P : Pl), i ≤ n1 ∧ i ≤ 40 ∧ iv = .int .i64 (i : Int) ∧ ScE wr (fun _ => False) w.heap.size s p (65 * i) (.pointer none) S P none ∧ Rel (65 * i) S P none ∧ Below w.heap.size w wr) (fun iv _ => n1 - (intOf iv).toNat)
  case atStart => exact ⟨0, S0, P0, by omega, by omega, rfl, hsc.out, rel0, hB2.out⟩
  case round =>
    obtain ⟨i, S, P, hi, hi40, rfl, hSc, hRl, hBr⟩ := hrel
    clear hsc hB2
    by_cases hin : i < n1 ∧ i < 40
    · have hlt : (i : Int) < (n1 : Int) := by omega
      have hlt4 : (i : Int) < 40 := by omega
      obtain ⟨b, off, o, rfl, hbk, hni, hcell⟩ := IsT.at (f := woC) (size := 4) (fun _ => rfl) (by decide) (h1.out.below hBr) hin.1
      have wi1 : IntKind.i64.wrap ((i : Int) + 1) = ((i + 1 : Nat) : Int) := by rw [wraps62 _ (by omega) (by omega)]; omega
      have hfo := hf1.out o (List.mem_of_getElem? hni)
      clear hni
      obtain ⟨ok, ot, on, ow⟩ := o
      have y0 : wr.cell? ⟨b, off + i * 4, none⟩ = some (.int .i64 ok) := hcell 0 _ rfl
      have y1 : wr.cell? ⟨b, off + i * 4 + 1, none⟩ = some (.string (str ot)) := hcell 1 _ rfl
      have y2 : wr.cell? ⟨b, off + i * 4 + 2, none⟩ = some (.string (str on)) := hcell 2 _ rfl
      have y3 : wr.cell? ⟨b, off + i * 4 + 3, none⟩ = some (.int .i64 ow) := hcell 3 _ rfl
      have hsz : (str ot).size = ot.length := Addr05.size_str ot
      clear hcell
      replace hSc := hide hSc
      replace hRl := hide hRl
      replace hBr := hide hBr
      by_cases hk : ok < 2 ∧ ot.length ≤ 2000
      · obtain ⟨hk1, hk2⟩ := hk
        have q := step_any ⟨ok, ot, on, ow⟩ wr (by dsimp only; omega) hfo.2 hSc.out hRl.out (by unfold big; omega)
        have hle : ((ot.length : Nat) : Int) ≤ 2000 := by omega
        dsimp only at q
        clear hfo hSc hRl
        replace q := hide q
        go_wp2_with fail
        refine (q.out).mono ?_
        rintro e w5 ⟨rfl, h5⟩
        obtain ⟨S', P', h6, h7, h8⟩ := step_none h5
        have hB6 := hBr.out.trans h8
        clear y0 y1 y2 y3 q h5 h8 hBr
        replace h6 := hide h6
        replace h7 := hide h7
        replace hB6 := hide hB6
        go_wp2_with fail
        exact ⟨⟨i + 1, S', P', by omega, by omega, by first | rfl | go_num, by have := h6.out; rw [show 65 * (i + 1) = 65 * i + 65 by omega]; exact this, by have := h7.out; rw [show 65 * (i + 1) = 65 * i + 65 by omega]; exact this, hB6.out⟩, by simp only [intOf]; omega⟩
      · have hnx : ∀ (u : Int), u = ((i + 1 : Nat) : Int) → ∃ (i' : Nat) (S : St) (P : Pl), i' ≤ n1 ∧ i' ≤ 40 ∧ Value.int .i64 u = .int .i64 (i' : Int) ∧ ScE wr (fun _ => False) w.heap.size s p (65 * i') (.pointer none) S P none ∧ Rel (65 * i') S P none ∧ Below w.heap.size w wr :=
          fun u hu => ⟨i + 1, S, P, by omega, by omega, by rw [hu], hSc.out.more (by omega), hRl.out.more (by omega), hBr.out⟩
        by_cases hk1 : ok < 2
        · have hle : ¬(((ot.length : Nat) : Int) ≤ 2000) := by omega
          clear hSc hRl hBr hfo
          replace hnx := hide hnx
          go_wp2_with fail
          exact ⟨hnx.out _ (by first | rfl | go_num), by simp only [intOf]; omega⟩
        · clear hSc hRl hBr hfo
          replace hnx := hide hnx
          go_wp2_with fail
          exact ⟨hnx.out _ (by first | rfl | go_num), by simp only [intOf]; omega⟩
    · have hsm : 65 * i ≤ 2600 := by omega
      obtain ⟨mp, lo, hi', n, nv, a1, a2, a3, sv, wv, hsc⟩ := hSc
      have hS := hsc.st
      have hMr := hsc.max
      have hbs := hsc.bs
      have hnm := hsc.n
      have hgm := hRl.gen
      have g1 := now_any hS
      have g2 := gen_any hS
      have g3 := begin_any hS w.heap.size hBr.size
      have hzr := hBr.size
      clear hRl hsc
      replace g1 := hide g1
      replace g2 := hide g2
      replace g3 := hide g3
      replace hS := hide hS
      replace hMr := hide hMr
      replace hBr := hide hBr
      go_upto_region 4 with fail
      go_cut [27] (fun bv wx => bv = .bool false ∧ wr = wx)
      case first =>
        by_cases hlt : (i : Int) < (n1 : Int)
        · have hlt4 : ¬((i : Int) < 40) := by omega
          go_wp2_with fail
          go_meet
          exact ⟨rfl, rfl⟩
        · go_wp2_with fail
          go_meet
          exact ⟨rfl, rfl⟩
      case rest =>
      obtain ⟨rfl, rfl⟩ := hcut
      go_wp2_with fail
      refine (g1.out).mono ?_
      rintro e wr ⟨rfl, rfl⟩
      clear g1
      go_wp2_with fail
      refine (g2.out).mono ?_
      rintro e wr ⟨rfl, rfl⟩
      clear g2
      go_wp2_with fail
      refine (g3.out).mono ?_
      rintro e w4 ⟨rfl, hT4, hb4⟩
      clear g3
      have hS4 := hS.out.below hb4
      have hM4 := hMr.out.below hb4
      have hB4 := hBr.out.trans (hb4.mono hzr)
      obtain ⟨t, ht⟩ : ∃ t, wr.heap.size = t := ⟨_, rfl⟩
      rw [ht] at hT4 hzr
      have hhi := hS.out.hh
      rw [ht] at hhi
      have hsl := hS.out.lt
      rw [ht] at hsl
      clear hS hMr hBr hb4
      replace hT4 := hide hT4
      replace hS4 := hide hS4
      replace hM4 := hide hM4
      replace hB4 := hide hB4
      go_wp2_with fail
      go_loopw [11, 12, 13] (fun mv jv _ wq => ∃ (j : Nat) (L : List Ch) (lv : Value), j ≤ n2 ∧ j ≤ 40 ∧ jv = .int .i64 (j : Int) ∧ mv = .int .i64 (L.length : Int) ∧ L.length ≤ j ∧ (∀ c ∈ L, c.text.length ≤ 65536 ∧ c.name.length ≤ maxLen) ∧ TxC wq w.heap.size t s lv ⟨S.gen, L, false⟩ ∧ (∀ k, lv.ownBlock = some k → t < k) ∧ StC wq s mp lo hi' n nv S ∧ MaxAt wq ∧ Below w.heap.size w wq) (fun _ jv _ _ => n2 - (intOf jv).toNat)
      case atStart => exact ⟨0, [], _, by omega, by omega, rfl, rfl, Nat.le_refl _, (fun c hc => by cases hc), hT4.out, (fun k hk => by cases hk), hS4.out, hM4.out, hB4.out⟩
      case round =>
        obtain ⟨j, L, lv, hj, hj40, rfl, rfl, hLj, hLt, hTq, hlv, hSq, hMq, hBq⟩ := hrel
        clear hT4 hS4 hM4 hB4
        by_cases hjn : j < n2 ∧ j < 40
        · have hlt : (j : Int) < (n2 : Int) := by omega
          have hlt4 : (j : Int) < 40 := by omega
          obtain ⟨b, off, o, rfl, hbk, hni, hcell⟩ := IsT.at (f := woC) (size := 4) (fun _ => rfl) (by decide) (h2.out.below hBq) hjn.1
          have wi1 : IntKind.i64.wrap ((j : Int) + 1) = ((j + 1 : Nat) : Int) := by rw [wraps62 _ (by omega) (by omega)]; omega
          have wl1 : IntKind.i64.wrap ((L.length : Int) + 1) = (L.length : Int) + 1 := by rw [wraps62 _ (by omega) (by omega)]
          have hfo := hf2.out o (List.mem_of_getElem? hni)
          clear hni
          obtain ⟨ok, ot, on, ow⟩ := o
          have y0 : wr.cell? ⟨b, off + j * 4, none⟩ = some (.int .i64 ok) := hcell 0 _ rfl
          have y1 : wr.cell? ⟨b, off + j * 4 + 1, none⟩ = some (.string (str ot)) := hcell 1 _ rfl
          have y2 : wr.cell? ⟨b, off + j * 4 + 2, none⟩ = some (.string (str on)) := hcell 2 _ rfl
          have y3 : wr.cell? ⟨b, off + j * 4 + 3, none⟩ = some (.int .i64 ow) := hcell 3 _ rfl
          have hsz : (str ot).size = ot.length := Addr05.size_str ot
          have hhq := hSq.hh
          clear hcell
          replace hSq := hide hSq
          replace hTq := hide hTq
          replace hMq := hide hMq
          replace hBq := hide hBq
          replace hLt := hide hLt
          replace hlv := hide hlv
          go_upto_region 14 with fail
          apply wp_region_lit
          iterate 4 (refine wpList_plain rfl fun K hK => ?_; go_simp; refine hK _ _ ?_; clear hK K)
          refine wpl_new rfl rfl 65 _ (alloc_wo _ rfl) 13 rfl (.tmp 71) rfl _ (fun _ => rfl) (fun _ => rfl) rfl (by kernel_rfl) (wo_one ok (str ot) (str on) ow) ?_
          intro w5 hg5 hb5 hz5
          refine wpList_nil ?_
          go_simp
          have hS5 := hSq.out.below hb5
          have hT5 := hTq.out.below hb5
          have hM5 := hMq.out.below hb5
          have hB5 := hBq.out.trans (hb5.mono hBq.out.size)
          have d0 := blk_cell hg5 0
          have d1 := blk_cell hg5 1
          have d2 := blk_cell hg5 2
          have d3 := blk_cell hg5 3
          clear y0 y1 y2 y3 hSq hTq hMq hBq hb5 hg5
          have htl := hT5.lt
          have hS5z := hS5.lt
          have hhz := hS5.hh
          have hbz := hB5.size
          -- what a change that waits leaves
          have hadd : ∀ (c : Ch) (w' : World), TxTo w5 w' w.heap.size t s lv (addT ⟨S.gen, L, false⟩ c).1 → c.text.length ≤ 65536 → c.name.length ≤ maxLen → ∃ (j' : Nat) (L' : List Ch) (lv' : Value), j' ≤ n2 ∧ j' ≤ 40 ∧ Value.int .i64 ((j + 1 : Nat) : Int) = .int .i64 (j' : Int) ∧ Value.int .i64 ((L.length : Int) + 1) = .int .i64 (L'.length : Int) ∧ L'.length ≤ j' ∧ (∀ c ∈ L', c.text.length ≤ 65536 ∧ c.name.length ≤ maxLen) ∧ TxC w' w.heap.size t s lv' ⟨S.gen, L', false⟩ ∧ (∀ k, lv'.ownBlock = some k → t < k) ∧ StC w' s mp lo hi' n nv S ∧ MaxAt w' ∧ Below w.heap.size w w' := by
            intro c w' hto hc1 hc2
            have ea : (addT ⟨S.gen, L, false⟩ c).1 = ⟨S.gen, L ++ [c], false⟩ := by
              unfold addT
              rw [if_neg (show ¬(⟨S.gen, L, false⟩ : Tx).over = true by simp), if_neg (show ¬64 ≤ (⟨S.gen, L, false⟩ : Tx).list.length by simp only; omega)]
            rw [ea] at hto
            obtain ⟨lv', a1, a2, a3⟩ := hto
            have hb : ∀ k, k = t ∨ lv.ownBlock = some k → t ≤ k := fun k hk => by
              rcases hk with rfl | hk
              · exact Nat.le_refl _
              · have := hlv.out k hk; omega
            refine ⟨j + 1, L ++ [c], lv', by omega, by omega, rfl, by rw [List.length_append]; simp, by simp; omega, fun q hq => ?_, a1, fun k hk => ?_, hS5.keptS a3 (fun e => by have := hb _ e; omega) (fun e => by have := hb _ e; omega) (fun k h1 h2 e => by have := hb _ e; omega), StC.maxAt hM5 a3 (fun e => by have := hb _ e; omega), below_step hB5 a3 hbz (fun k hk e => by have := hb _ e; omega)⟩
            · rcases List.mem_append.1 hq with hq | hq
              · exact hLt.out q hq
              · rw [List.mem_singleton] at hq
                subst hq
                exact ⟨hc1, hc2⟩
            · rcases a2 with e | ⟨i, e, hi⟩
              · rw [e] at hk; exact hlv.out k hk
              · rw [e] at hk
                have := Option.some.inj hk
                omega
          have qL := xload_any _ ot w5 hT5
          have qW := xweight_any _ on ow w5 hT5
          have eL : ∀ c, (addT ⟨S.gen, L, false⟩ c).2 = 0 := by
            intro c
            unfold addT
            rw [if_neg (show ¬(⟨S.gen, L, false⟩ : Tx).over = true by simp), if_neg (show ¬64 ≤ (⟨S.gen, L, false⟩ : Tx).list.length by simp only; omega)]
          replace hS5 := hide hS5
          replace hT5 := hide hT5
          replace hM5 := hide hM5
          replace hB5 := hide hB5
          replace hadd := hide hadd
          replace qL := hide qL
          replace qW := hide qW
          by_cases h20 : 2000 < ot.length
          · have hgt : 2000 < ((ot.length : Nat) : Int) := by omega
            clear hadd qL qW
            go_wp2_with fail
            exact ⟨⟨j + 1, L, lv, by omega, by omega, by first | rfl | go_num, rfl, by omega, hLt.out, hT5.out, hlv.out, hS5.out, hM5.out, hB5.out⟩, by simp only [intOf]; omega⟩
          · have hgt : ¬(2000 < ((ot.length : Nat) : Int)) := by omega
            go_upto_region 16 with fail
            go_cut [79] (fun bv wx => (∃ b, bv = .bool b) ∧ w5 = wx)
            case first =>
              go_wp2_with fail
              go_meet
              exact ⟨⟨_, rfl⟩, rfl⟩
            case rest =>
            obtain ⟨⟨bq, rfl⟩, rfl⟩ := hcut
            cases bq
            · have q := qW.out
              rw [eL] at q
              have hd := fun w' => hadd.out ⟨[], on, ow⟩ w'
              clear qL qW hadd d0 d1
              replace q := hide q
              replace hd := hide hd
              go_wp2_with fail
              refine (q.out).mono ?_
              rintro e w6 ⟨rfl, h6⟩
              have hd2 := hd.out w6 h6 (Nat.zero_le _) hfo.2
              clear q hd h6 d2 d3 hS5 hT5 hM5 hB5
              replace hd2 := hide hd2
              go_wp2_with fail
              exact ⟨hd2.out, by simp only [intOf]; omega⟩
            · have q := qL.out
              rw [eL] at q
              have hd := fun w' => hadd.out ⟨ot, [], 0⟩ w'
              clear qL qW hadd d0
              replace q := hide q
              replace hd := hide hd
              go_wp2_with fail
              refine (q.out).mono ?_
              rintro e w6 ⟨rfl, h6⟩
              have hd2 := hd.out w6 h6 (by omega) (Nat.zero_le _)
              clear q hd h6 d1 d2 d3 hS5 hT5 hM5 hB5
              replace hd2 := hide hd2
              go_wp2_with fail
              exact ⟨hd2.out, by simp only [intOf]; omega⟩
        · have qC := commit_any S ⟨S.gen, L, false⟩ wr hSq hTq (.inr hhi) (by simp only; unfold big; omega) (by simp only; unfold big; omega) hMq (fun c hc => hLt c hc)
          have htl := hTq.lt
          have hhq := hSq.hh
          have hsq := hSq.lt
          have hnw := hSq.now
          have hsx := hSq.hs
          obtain ⟨⟨S6, E⟩, hSE⟩ : ∃ r, commitS S ⟨S.gen, L, false⟩ = r := ⟨_, rfl⟩
          have hcc := com_cases S L
          rw [hSE] at qC hcc
          dsimp only at qC hcc
          clear hLt hSE
          replace qC := hide qC
          replace hnw := hide hnw
          replace hMq := hide hMq
          replace hBq := hide hBq
          replace hcc := hide hcc
          go_upto_region 12 with fail
          go_cut [65] (fun bv wx => bv = .bool false ∧ wr = wx)
          case first =>
            by_cases hlt : (j : Int) < (n2 : Int)
            · have hlt4 : ¬((j : Int) < 40) := by omega
              go_wp2_with fail
              go_meet
              exact ⟨rfl, rfl⟩
            · go_wp2_with fail
              go_meet
              exact ⟨rfl, rfl⟩
          case rest =>
          obtain ⟨rfl, rfl⟩ := hcut
          go_wp2_with fail
          refine (qC.out).mono ?_
          rintro e w6 ⟨rfl, hT6, hk6, mp', lo', hi2, n', nv', hS6, hn6, -, -⟩
          have hM6 := StC.maxAt hMq.out hk6 (fun e => by have := hTq.hb; omega)
          have hB6 := below_step hBq.out hk6 hBq.out.size (fun k hk e => by have := hTq.hb; omega)
          have hnw6 := hnw.out.keep (Kp.of_keptS hk6 hhq (fun k h1 h2 e => by omega))
          have g4 := now_any hS6
          have g5 := gen_any hS6
          have hok6 := hS6.ok
          clear qC hMq hBq hnw hTq hSq hk6
          replace g4 := hide g4
          replace g5 := hide g5
          replace hT6 := hide hT6
          replace hS6 := hide hS6
          replace hM6 := hide hM6
          replace hB6 := hide hB6
          replace hnw6 := hide hnw6
          go_wp2_with fail
          refine (g4.out).mono ?_
          rintro e w6 ⟨rfl, rfl⟩
          clear g4
          rcases hcc.out with ⟨rfl, hA⟩ | ⟨rfl, hL0, hc6, hg6⟩
          · go_upto_region 22 with fail
            go_cut [101] (fun bv wx => bv = .bool true ∧ w6 = wx)
            case first =>
              rcases hA with hA | hA
              · have hne : (E != 0) = true := by rw [bne_iff_ne]; exact hA
                go_wp2_with fail
                go_meet
                exact ⟨rfl, rfl⟩
              · have hl0 : (((L.length : Nat) : Int) == 0) = true := by rw [beq_iff_eq]; omega
                clear hA
                by_cases hE : E = 0
                · subst hE
                  go_wp2_with fail
                  go_meet
                  exact ⟨rfl, rfl⟩
                · have hne : (E != 0) = true := by rw [bne_iff_ne]; exact hE
                  go_wp2_with fail
                  go_meet
                  exact ⟨rfl, rfl⟩
            case rest =>
            obtain ⟨rfl, rfl⟩ := hcut
            have qa := sawake_any w6 hM6.out
            have hnow := hS6.out.now
            rcases hc : S6.c with _ | c
            · rw [hc] at hnow
              have h9 := hnw6.out
              rw [hc] at h9
              obtain rfl : nv' = .pointer none := hnow
              obtain rfl : nv = .pointer none := h9
              clear hnw6
              replace qa := hide qa
              go_wp2_with fail
              refine (g5.out).mono ?_
              rintro e w6 ⟨rfl, rfl⟩
              clear g5
              go_wp2_with fail
              refine (qa.out).mono ?_
              rintro e w7 ⟨rfl, hb7⟩
              have hB7 := hB6.out.trans (hb7.mono hB6.out.size)
              clear qa hb7 hB6
              replace hB7 := hide hB7
              go_wp2_with fail
              go_ret
              exact ⟨rfl, hB7.out⟩
            · rw [hc] at hnow
              have h9 := hnw6.out
              rw [hc] at h9
              obtain ⟨x', e1, hV1⟩ := hnow
              obtain ⟨x, e2, hV2⟩ := h9
              subst e1
              subst e2
              have hsm := plain_small (validF_parts (hok6 c hc).1).1
              have hsm4 : c.small 4096 := by
                have := treeF_len (validF_parts (hok6 c hc).1).2.1
                exact ⟨by omega, by omega, by omega⟩
              obtain ⟨⟨A3, A4, A5, k3, k4, k5, t3, hb3, hx3, hcv3, -⟩⟩ := hV1.at
              obtain ⟨⟨A6, A7, A8, k6, k7, k8, t6, hb6, hx6, hcv6, -⟩⟩ := hV2.at
              have hR3 := (cfgV_R hcv3).1
              have hR6 := (cfgV_R hcv6).1
              clear hV1 hV2 hcv3 hcv6 hnw6 qa
              replace hR3 := hide hR3
              replace hR6 := hide hR6
              replace hb3 := hide hb3
              replace hb6 := hide hb6
              go_upto_region 25 with fail
              refine wp_region_X (Below w6.heap.size) (by as_aux_lemma => kernel_rfl) ?_
              intro w7 hbd
              have hB7 := hB6.out.trans (hbd.mono hB6.out.size)
              have hM7 := hM6.out.below hbd
              have hS7 := hS6.out.below hbd
              have hT7 := hT6.out.below hbd
              have qs := vsame_any c hsm4 w7 A6 A7 A8 A3 A4 A5 k6 k7 k8 k3 k4 k5 (hR6.out.on hbd) (hR3.out.on hbd)
              have z7 := hbd.size
              have lx := fun l : RelW (Below w6.heap.size) w7 => range_of (blk_below (hbd.trans l.hk) (lt_of_blk hb6.out) hb6.out)
              have ly := fun l : RelW (Below w6.heap.size) w7 => range_of (blk_below (hbd.trans l.hk) (lt_of_blk hb3.out) hb3.out)
              clear hbd hR3 hR6 hB6 hM6 hS6 hT6 g5
              replace qs := hide qs
              replace hB7 := hide hB7
              replace hM7 := hide hM7
              replace hS7 := hide hS7
              replace hT7 := hide hT7
              refine wpX_seg (Below w6.heap.size) 0 8 (fuel := 2) (by as_aux_lemma => kernel_rfl) (fun d _ _ _ _ h => by cases d <;> exact h) (by as_aux_lemma => kernel_rfl) (by as_aux_lemma => kernel_rfl) ?_
              simp only [List.drop_zero, List.take_succ_cons, List.take_zero]
              iterate 3 (refine wpQX_step (fun K hK => ?_); go_simp; refine hK _ ?_; clear hK K)
              refine wpQX_load rfl 30 (.tmp 115) rfl x 0 rfl _ _ lx Tryd.underlying30 rfl (by kernel_rfl) ?_
              iterate 3 (refine wpQX_step (fun K hK => ?_); go_simp; refine hK _ ?_; clear hK K)
              refine wpQX_load rfl 30 (.tmp 119) rfl x' 0 rfl _ _ ly Tryd.underlying30 rfl (by kernel_rfl) ?_
              simp only [Array.toArray_toList]
              refine wpQF_nil ?_
              clear lx ly
              refine wpF_step 8 rfl (by as_aux_lemma => kernel_rfl) (fun K hK => ?_)
              go_simp
              go_at_call 26
              refine qs.out.mono ?_
              rintro e w8 ⟨rfl, hb8⟩
              refine hK _ _ (hb8.mono z7) ?_
              clear hK K
              have hB8 := hB7.out.trans (hb8.mono hB7.out.size)
              have hM8 := hM7.out.below hb8
              have g6 := gen_any (hS7.out.below hb8)
              have qa := sawake_any w8 hM8
              clear qs hb8 hB7 hM7 hS7 hT7 hM8
              replace hB8 := hide hB8
              replace g6 := hide g6
              replace qa := hide qa
              refine wpF_step 9 rfl (by as_aux_lemma => kernel_rfl) (fun K hK => ?_)
              go_simp
              refine hK _ _ (IsRel.refl _) ?_
              clear hK K
              refine wpF_done (by as_aux_lemma => kernel_rfl) ?_ 0
              go_wp2_with fail
              refine (g6.out).mono ?_
              rintro e w8 ⟨rfl, rfl⟩
              clear g6
              go_wp2_with fail
              refine (qa.out).mono ?_
              rintro e w9 ⟨rfl, hb9⟩
              have hB9 := hB8.out.trans (hb9.mono hB8.out.size)
              clear qa hb9 hB8
              replace hB9 := hide hB9
              go_wp2_with fail
              go_ret
              exact ⟨rfl, hB9.out⟩
          · have hl0 : (((L.length : Nat) : Int) == 0) = false := by rw [beq_eq_false_iff_ne]; omega
            have hnow := hS6.out.now
            rcases hc : S6.c with _ | c
            · exact absurd hc hc6
            rw [hc] at hnow
            obtain ⟨x', e1, -⟩ := hnow
            subst e1
            have hgg : (S6.gen : Int) = (S.gen : Int) + 1 := by rw [hg6]; rfl
            have wg : IntKind.i64.wrap ((S.gen : Int) + 1) = (S.gen : Int) + 1 := wraps62 _ (by omega) (by omega)
            have qO := add_any ⟨S.gen, L, true⟩ ⟨[], [], 0⟩ w6 hT6.out
            have qC2 : Calls Tryd.prog 20 #[.pointer (some ⟨t, 0, none⟩)] w6 fun e w' => e = .returned (.int .i64 9) ∧ w' = w6 := by
              have c3 := blk_cell hT6.out.blk 3
              dsimp only at c3
              clear qO
              go_enter Tryd.func20, Tryd.ntmps20
              go_wp2_with fail
              go_ret
              exact ⟨rfl, rfl⟩
            have qX := xload_any ⟨S.gen, L, true⟩ [] w6 hT6.out
            rw [show addT ⟨S.gen, L, true⟩ ⟨[], [], 0⟩ = (⟨S.gen, L, true⟩, 9) from if_pos rfl, show str [] = ⟨#[]⟩ from rfl] at qX
            have htb := hT6.out.hb
            have hrow := fun k (hk : lv.ownBlock = some k) => (World.ownsRow.lt hT6.out.row k hk).1
            clear qO hnw6 hL0 hc6 hg6
            have hg7 := g5.out
            rw [hgg] at hg7
            clear g5 hgg
            replace hg7 := hide hg7
            replace qC2 := hide qC2
            replace qX := hide qX
            go_wp2_with fail
            refine (hg7.out).mono ?_
            rintro e w6 ⟨rfl, rfl⟩
            clear hg7
            go_wp2_with fail
            refine (qC2.out).mono ?_
            rintro e w6 ⟨rfl, rfl⟩
            clear qC2
            go_wp2_with fail
            refine (qX.out).mono ?_
            rintro e w7 ⟨rfl, h7⟩
            obtain ⟨lv7, -, -, hk7⟩ := h7
            have hM7 := StC.maxAt hM6.out hk7 (fun e => by rcases e with e | e; omega; have := hrow _ e; omega)
            have hB7 := below_step hB6.out hk7 hB6.out.size (fun k hk e => by rcases e with e | e; omega; have := hrow _ e; omega)
            have qa := sawake_any w7 hM7
            clear qX hk7 hM7 hB6 hS6 hT6 hM6
            replace qa := hide qa
            replace hB7 := hide hB7
            go_wp2_with fail
            refine (qa.out).mono ?_
            rintro e w9 ⟨rfl, hb9⟩
            have hB9 := hB7.out.trans (hb9.mono hB7.out.size)
            clear qa hb9 hB7
            replace hB9 := hide hB9
            go_wp2_with fail
            go_ret
            exact ⟨rfl, hB9.out⟩
theorem refuses_row (A1 : Option Addr) (n1 c1 : Nat) (es : List Wo) (A2 : Option Addr) (n2 c2 : Nat) (ws : List Wo) (w : World) (h1 : IsT woC 4 w w.heap.size A1 n1 es ∧ ∀ x ∈ es, Wo.fits x) (hn1 : n1 ≤ c1) (hc1 : c1 ≤ maxLen) (h2 : IsT woC 4 w w.heap.size A2 n2 ws ∧ ∀ x ∈ ws, Wo.fits x) (hn2 : n2 ≤ c2) (hc2 : c2 ≤ maxLen) (hM : MaxAt w) :
    Calls Tryd.prog 5 #[.slice A1 n1 c1, .slice A2 n2 c2] w fun e w' => e = .returned (.bool true) ∧ Below w.heap.size w w' :=
  refuses_walk A1 A2 n1 c1 n2 c2 es ws w h1.1 h1.2 ⟨hn1, hc1⟩ h2.1 h2.2 ⟨hn2, hc2⟩ hM
end Store20
end Go.Proofs.YtcpokkkdmenmgaaDoor
