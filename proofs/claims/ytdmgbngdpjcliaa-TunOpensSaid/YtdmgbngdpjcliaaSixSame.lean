/- The law's same of two headers that are the same; the law's cut; the example of chapter 9. Conditions: slices that read as lists. -/
import Derived.Test.YtdmgbngdpjcliaaSixBytes
namespace Go.Proofs.Ytdmgbngdpjcliaa
open Go.RowKit Go.ChangeShapes Go.WideShapes Go.ChangeAt Go.Deep
namespace Six
theorem cut_as (A : Option Addr) (n c n1 : Nat) (w : World) (hn : n ≤ maxLen) (hc : n ≤ c) (h1 : min n 500 = n1) :
    Calls Try.prog 11 #[.slice A n c] w fun e w' => e = .returned (.slice A n1 c) ∧ w = w' := by
  unfold maxLen at hn
  by_cases h : 500 < n
  · obtain rfl : n1 = 500 := by omega
    go_enter Try.func11, Try.ntmps11
    go_wp2
    go_ret
    exact ⟨rfl, rfl⟩
  · obtain rfl : n1 = n := by omega
    go_enter Try.func11, Try.ntmps11
    go_wp2
    go_ret
    exact ⟨rfl, rfl⟩
set_option maxRecDepth 20000 in
set_option maxHeartbeats 4000000 in
theorem same_any (cls lab hop : Int) (sv : Bool) (shi slo : Int) (dv : Bool) (dhi dlo : Int) (X1 : Option Addr) (n1 c1 : Nat) (X2 : Option Addr) (n2 c2 : Nat) (proto : Int) (es1 es2 : List Ext) (w : World)
    (h1 : IsX w w.heap.size X1 n1 es1) (h2 : IsX w w.heap.size X2 n2 es2) (he : pes es1 = pes es2) (hn : n1 ≤ 1099511627776) :
    Calls Try.prog 14 #[hdV cls lab hop sv shi slo dv dhi dlo X1 n1 c1 proto, hdV cls lab hop sv shi slo dv dhi dlo X2 n2 c2 proto] w fun e w' => e = .returned (.bool true) ∧ Below w.heap.size w w' := by
  have hnn : n2 = n1 := by rw [← h2.1, ← h1.1, ← pes_length, ← he, pes_length]
  subst hnn
  obtain ⟨w2, hw2⟩ : ∃ w2, (w.alloc (hdC cls lab hop sv shi slo dv dhi dlo X1 n2 c1 proto)).alloc (hdC cls lab hop sv shi slo dv dhi dlo X2 n2 c2 proto) = w2 := ⟨_, rfl⟩
  have hb2 : Below w.heap.size w w2 := hw2 ▸ ((Below.refl _ _).alloc (Nat.le_refl _) _).alloc (by simp) _
  have hga : w2.heap[w.heap.size]? = some (hdC cls lab hop sv shi slo dv dhi dlo X1 n2 c1 proto) := hw2 ▸ blk_old _ (by simp) (blk_new _ _ _)
  have hgb : w2.heap[w.heap.size + 1]? = some (hdC cls lab hop sv shi slo dv dhi dlo X2 n2 c2 proto) := hw2 ▸ (by simpa using blk_new (w.alloc (hdC cls lab hop sv shi slo dv dhi dlo X1 n2 c1 proto)) 29 #[.int .i64 cls, .int .i64 lab, .int .i64 hop, .bool sv, .int .u64 shi, .int .u64 slo, .bool dv, .int .u64 dhi, .int .u64 dlo, .slice X2 n2 c2, .int .i64 proto])
  have hz2 : w.heap.size + 1 < w2.heap.size := by rw [← hw2]; simp
  have h12 := h1.on hb2
  have h22 := h2.on hb2
  unfold hdC at hw2 hga hgb
  have hqa := blk_cell hga
  have hqb := blk_cell hgb
  replace h1 := hide h1
  replace h2 := hide h2
  replace h12 := hide h12
  replace h22 := hide h22
  replace hb2 := hide hb2
  replace hga := hide hga
  replace hgb := hide hgb
  replace he := hide he
  unfold hdV
  go_enter Try.func14, Try.ntmps14
  go_wp2_with fail
  clear hw2 hqa hqb
  go_loopw [5] (fun i wr => ∃ j : Nat, j ≤ n2 ∧ i = .int .i64 (j : Int) ∧ Below w2.heap.size w2 wr) (fun i _ => n2 - (intOf i).toNat)
  case atStart => exact ⟨0, Nat.zero_le _, rfl, Below.refl _ _⟩
  case round =>
    obtain ⟨j, hj, rfl, hbr⟩ := hrel
    have hgar := blk_below hbr (by omega) hga.out
    have hgbr := blk_below hbr hz2 hgb.out
    have hx1 := h12.out.on hbr
    have hx2 := h22.out.on hbr
    have hl1 : w.heap.size < wr.heap.size := by have := hbr.size; omega
    have hl2 : w.heap.size + 1 < wr.heap.size := by have := hbr.size; omega
    have hca := blk_cell hgar
    by_cases hlt : j < n2
    · have hji : (j : Int) < (n2 : Int) := by omega
      have hj0 : (0 : Int) ≤ (j : Int) := by omega
      obtain ⟨ba, oa, ka, Aa, ca, xa, rfl, hbla, hgea, hca0, hca1, hbxa, hxca, hxma⟩ := hx1.at hlt
      obtain ⟨bb, ob, kb, Ab, cb, xb, rfl, hblb, hgeb, hcb0, hcb1, hbxb, hxcb, hxmb⟩ := hx2.at hlt
      have hpe : ((ka, xa) : Int × List UInt8) = (kb, xb) := by
        have e1 := pes_get hgea
        have e2 := pes_get hgeb
        rw [he.out, e2] at e1
        exact (Option.some.inj e1).symm
      obtain ⟨rfl, rfl⟩ : ka = kb ∧ xa = xb := by simpa using hpe
      have hd1 := fun (l : Later wr) (o : Nat) => blk_cell (blk_below l.hb hl1 hgar) o
      have hd2 := fun (l : Later wr) (o : Nat) => blk_cell (blk_below l.hb hl2 hgbr) o
      have hd3 := fun l : Later wr => l.cell hca0
      have hd4 := fun l : Later wr => l.cell hca1
      have hd5 := fun l : Later wr => l.cell hcb0
      have hd6 := fun l : Later wr => l.cell hcb1
      have hd7 := fun l : Later wr => (hbxa.later l).str ca
      have hd8 := fun l : Later wr => (hbxb.later l).str cb
      clear hca0 hca1 hcb0 hcb1 hpe hgea hgeb hx1 hx2
      replace hgar := hide hgar
      replace hgbr := hide hgbr
      replace hbr := hide hbr
      replace hbxa := hide hbxa
      replace hbxb := hide hbxb
      go_wp2_with fail
      clear hca
      refine wp_region_L (by as_aux_lemma => kernel_rfl) ?_
      refine wpE_seg 0 30 (fuel := 0) (by as_aux_lemma => kernel_rfl) (fun d _ _ _ _ h => by cases d <;> exact h) (by as_aux_lemma => kernel_rfl) (by as_aux_lemma => kernel_rfl) ?_
      simp only [List.drop_zero, List.take_succ_cons, List.take_zero]
      iterate 30 (refine wpQE_step (fun K hK => ?_); go_simp; refine hK _ ?_; clear hK K)
      refine wpQE_nil ?_
      refine wpE_done (by as_aux_lemma => kernel_rfl) (fun w3 hb3 => ?_) 0
      have hbe := hbr.out.trans (hb3.mono hbr.out.size)
      clear hd1 hd2 hd3 hd4 hd5 hd6 hd7 hd8 hb3
      replace hbe := hide hbe
      go_wp2_with fail
      exact ⟨⟨j + 1, by omega, by go_num, hbe.out⟩, by simp [intOf]; omega⟩
    · have hji : ¬ (j : Int) < (n2 : Int) := by omega
      replace hx1 := hide hx1
      replace hx2 := hide hx2
      replace hgar := hide hgar
      replace hgbr := hide hgbr
      replace hbr := hide hbr
      go_wp2_with fail
      go_ret
      exact ⟨rfl, hb2.out.trans (hbr.out.mono hb2.out.size)⟩
theorem allB6_head (cls lab hop shi slo dhi dlo proto : Nat) (es : List (Int × List UInt8)) (ps : List UInt8) : (allB6 cls lab hop shi slo dhi dlo proto es ps).getD 0 0 = UInt8.ofNat (96 + cls / 16) := rfl
set_option maxRecDepth 4000 in
set_option maxHeartbeats 4000000 in
theorem awake_any (w : World) : Calls Try.prog 15 #[] w fun e w' => e = .returned (.bool true) ∧ Below w.heap.size w w' := by
  go_enter Try.func15, Try.ntmps15
  go_wp2_with fail
  refine (bytes_any 0 0 0 true 0 0 true 0 0 none 0 0 6 [] none 0 0 [] _ (IsX.nil _ _ _) (by omega) (by unfold maxLen; omega) (IsB.nil _ _ _) (by omega) (by unfold maxLen; omega) rfl rfl (by omega) (by omega) (by omega) (by omega) (by omega) (by omega) (by omega) (by omega) (by omega) (by omega) (fun e he => by cases he) (fun e he => by cases he) (by decide)).mono ?_
  rintro e w1 ⟨v, rfl, hown, hb⟩
  have hl : (allB6 0 0 0 0 0 0 0 6 (pes []) []).length = 40 := by rw [allB6_length]; rfl
  obtain ⟨A, c, rfl, hc, _, hi⟩ := hown.form
  rw [hl] at hi hc ⊢
  obtain ⟨b, off, v0, rfl, _, hv0, _, hc0⟩ := hi.byte (i := 0) (by omega)
  rw [allB6_head] at hv0
  obtain rfl : v0 = 96 := by rw [← hv0]; decide
  rw [Nat.add_zero] at hc0
  have k0 : (0 : Int) < ((40 : Nat) : Int) := by omega
  clear hown hi hl hv0
  replace hb := hide hb
  go_wp2_with fail
  go_ret
  exact ⟨by simp, hb.out⟩
end Six
end Go.Proofs.Ytdmgbngdpjcliaa
