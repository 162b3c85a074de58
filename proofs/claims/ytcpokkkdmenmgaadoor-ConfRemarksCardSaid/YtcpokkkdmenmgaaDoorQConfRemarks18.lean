/- The law's Few: a configuration with at most 60 nodes, 20 vips, 20 views. Conditions: rows in their capacity. -/
import Derived.Test.YtcpokkkdmenmgaaDoorQConfRemarks17
namespace Go.Proofs.YtcpokkkdmenmgaaDoor
open Go.RowKit Go.ChangeShapes Go.WideShapes Go.ChangeAt Go.Deep
namespace Conf18
open Addr05
def fewC (c : Cfg) : Cfg := { c with nodes := c.nodes.take 60, vips := c.vips.take 20, views := c.views.take 20 }
set_option maxRecDepth 20000 in
set_option maxHeartbeats 8000000 in
theorem cfew_raw (A1 A2 A3 : Option Addr) (n m l k1 k2 k3 : Nat) (h1 : n ≤ k1 ∧ k1 ≤ maxLen ∧ (0 < n → ∃ p, A1 = some p)) (h2 : m ≤ k2 ∧ k2 ≤ maxLen ∧ (0 < m → ∃ p, A2 = some p)) (h3 : l ≤ k3 ∧ k3 ≤ maxLen ∧ (0 < l → ∃ p, A3 = some p)) (f d : Int) (a a' : Bool) (b e b' e' : Nat) (w : World) :
    Calls Tryd.prog 6 #[.agg #[.slice A1 n k1, .slice A2 m k2, .slice A3 l k3, .int .i64 f, .int .i64 d, .bool a, .int .u64 (b : Int), .int .u64 (e : Int), .bool a', .int .u64 (b' : Int), .int .u64 (e' : Int)]] w fun r w' => r = .returned (.agg #[.slice A1 (min 60 n) k1, .slice A2 (min 20 m) k2, .slice A3 (min 20 l) k3, .int .i64 f, .int .i64 d, .bool a, .int .u64 (b : Int), .int .u64 (e : Int), .bool a', .int .u64 (b' : Int), .int .u64 (e' : Int)]) ∧ Below w.heap.size w w' := by
  obtain ⟨N, hN⟩ : ∃ N, min 60 n = N := ⟨_, rfl⟩
  obtain ⟨M, hM⟩ : ∃ M, min 20 m = M := ⟨_, rfl⟩
  obtain ⟨L, hL⟩ : ∃ L, min 20 l = L := ⟨_, rfl⟩
  rw [hN, hM, hL]
  obtain ⟨z, hz⟩ : ∃ z, w.heap.size = z := ⟨_, rfl⟩
  obtain ⟨w1, hw1⟩ : ∃ w1, (w.alloc (.cells #[.slice A1 n k1, .slice A2 m k2, .slice A3 l k3, .int .i64 f, .int .i64 d, .bool a, .int .u64 (b : Int), .int .u64 (e : Int), .bool a', .int .u64 (b' : Int), .int .u64 (e' : Int)] 30)).alloc (.cells #[.slice none 0 0, .slice none 0 0, .slice none 0 0, .int .i64 0, .int .i64 0, .bool false, .int .u64 0, .int .u64 0, .bool false, .int .u64 0, .int .u64 0] 30) = w1 := ⟨_, rfl⟩
  have hB : Below z w w1 := by
    rw [← hw1, ← hz]
    exact ((Below.refl _ _).alloc (Nat.le_refl _) _).alloc (by simp) _
  have hg1 : w1.heap[z]? = some (.cells #[.slice A1 n k1, .slice A2 m k2, .slice A3 l k3, .int .i64 f, .int .i64 d, .bool a, .int .u64 (b : Int), .int .u64 (e : Int), .bool a', .int .u64 (b' : Int), .int .u64 (e' : Int)] 30 (0, 0)) := by
    rw [← hw1]
    refine Eq.trans (Below.heap_alloc _ _ z (by simp [← hz])) ?_
    rw [← hz]
    exact blk_new _ _ _
  have hr1 : w1.heap[z + 1]? = some (.cells #[.slice none 0 0, .slice none 0 0, .slice none 0 0, .int .i64 0, .int .i64 0, .bool false, .int .u64 0, .int .u64 0, .bool false, .int .u64 0, .int .u64 0] 30 (0, 0)) := by
    have e : z + 1 = (w.alloc (.cells #[.slice A1 n k1, .slice A2 m k2, .slice A3 l k3, .int .i64 f, .int .i64 d, .bool a, .int .u64 (b : Int), .int .u64 (e : Int), .bool a', .int .u64 (b' : Int), .int .u64 (e' : Int)] 30)).heap.size := by simp [← hz]
    rw [← hw1, e]
    exact blk_new _ _ _
  replace hB := hide hB
  replace hg1 := hide hg1
  replace hr1 := hide hr1
  go_enter Tryd.func6, Tryd.ntmps6
  rw [hz]
  go_upto_region 1 with fail
  clear hw1
  have t0 := blk_cell hg1.out 0
  go_upto_if 6 with fail
  go_cut [] (fun wx => wx.heap[z]? = some (.cells #[.slice A1 N k1, .slice A2 m k2, .slice A3 l k3, .int .i64 f, .int .i64 d, .bool a, .int .u64 (b : Int), .int .u64 (e : Int), .bool a', .int .u64 (b' : Int), .int .u64 (e' : Int)] 30 (0, 0)) ∧ wx.heap[z + 1]? = some (.cells #[.slice none 0 0, .slice none 0 0, .slice none 0 0, .int .i64 0, .int .i64 0, .bool false, .int .u64 0, .int .u64 0, .bool false, .int .u64 0, .int .u64 0] 30 (0, 0)) ∧ Below z w wx)
  case first =>
    by_cases hc : 60 < n
    · obtain ⟨⟨pb, po, ps⟩, rfl⟩ := h1.2.2 (by omega)
      obtain rfl : 60 = N := by omega
      have tc : decide ((60 : Int) < (n : Int)) = true := by rw [decide_eq_true_eq]; omega
      have i1 : (60 : Int) ≤ (k1 : Int) := by omega
      obtain ⟨w6, hw6⟩ : ∃ w6, w1.setCell ⟨z, 0, none⟩ (.slice (some ⟨pb, po, ps⟩) 60 k1) = w6 := ⟨_, rfl⟩
      have hg6 : w6.heap[z]? = some (.cells #[.slice (some ⟨pb, po, ps⟩) 60 k1, .slice A2 m k2, .slice A3 l k3, .int .i64 f, .int .i64 d, .bool a, .int .u64 (b : Int), .int .u64 (e : Int), .bool a', .int .u64 (b' : Int), .int .u64 (e' : Int)] 30 (0, 0)) := hw6 ▸ blk_set hg1.out 0 _
      have hr6 : w6.heap[z + 1]? = some (.cells #[.slice none 0 0, .slice none 0 0, .slice none 0 0, .int .i64 0, .int .i64 0, .bool false, .int .u64 0, .int .u64 0, .bool false, .int .u64 0, .int .u64 0] 30 (0, 0)) := by
        rw [← hw6]
        exact (Below.heap_setCell _ _ _ (z + 1) (by simp)).trans hr1.out
      have hb6 : Below z w w6 := hw6 ▸ hB.out.setCell (p := ⟨z, 0, none⟩) (Nat.le_refl _) _
      have hfa := blk_free hg1.out 0
      clear h1 h2 h3
      replace hg6 := hide hg6
      replace hb6 := hide hb6
      replace hr6 := hide hr6
      go_wp2_with fail
      go_meet
      exact ⟨hg6.out, hr6.out, hb6.out⟩
    · obtain rfl : n = N := by omega
      have tc : decide ((60 : Int) < (n : Int)) = false := by rw [decide_eq_false_iff_not]; omega
      clear h1 h2 h3
      go_wp2_with fail
      go_meet
      exact ⟨hg1.out, hr1.out, hB.out⟩
  case rest =>
  obtain ⟨hg2, hr2, hb2⟩ := hcut
  clear t0 hg1 hr1 hB
  replace hg2 := hide hg2
  replace hr2 := hide hr2
  replace hb2 := hide hb2
  have t1 := blk_cell hg2.out 1
  go_upto_if 14 with fail
  go_cut [] (fun wx => wx.heap[z]? = some (.cells #[.slice A1 N k1, .slice A2 M k2, .slice A3 l k3, .int .i64 f, .int .i64 d, .bool a, .int .u64 (b : Int), .int .u64 (e : Int), .bool a', .int .u64 (b' : Int), .int .u64 (e' : Int)] 30 (0, 0)) ∧ wx.heap[z + 1]? = some (.cells #[.slice none 0 0, .slice none 0 0, .slice none 0 0, .int .i64 0, .int .i64 0, .bool false, .int .u64 0, .int .u64 0, .bool false, .int .u64 0, .int .u64 0] 30 (0, 0)) ∧ Below z w wx)
  case first =>
    by_cases hc : 20 < m
    · obtain ⟨⟨pb, po, ps⟩, rfl⟩ := h2.2.2 (by omega)
      obtain rfl : 20 = M := by omega
      have tc : decide ((20 : Int) < (m : Int)) = true := by rw [decide_eq_true_eq]; omega
      have i1 : (20 : Int) ≤ (k2 : Int) := by omega
      obtain ⟨w6, hw6⟩ : ∃ w6, wc.setCell ⟨z, 1, none⟩ (.slice (some ⟨pb, po, ps⟩) 20 k2) = w6 := ⟨_, rfl⟩
      have hg6 : w6.heap[z]? = some (.cells #[.slice A1 N k1, .slice (some ⟨pb, po, ps⟩) 20 k2, .slice A3 l k3, .int .i64 f, .int .i64 d, .bool a, .int .u64 (b : Int), .int .u64 (e : Int), .bool a', .int .u64 (b' : Int), .int .u64 (e' : Int)] 30 (0, 0)) := hw6 ▸ blk_set hg2.out 1 _
      have hr6 : w6.heap[z + 1]? = some (.cells #[.slice none 0 0, .slice none 0 0, .slice none 0 0, .int .i64 0, .int .i64 0, .bool false, .int .u64 0, .int .u64 0, .bool false, .int .u64 0, .int .u64 0] 30 (0, 0)) := by
        rw [← hw6]
        exact (Below.heap_setCell _ _ _ (z + 1) (by simp)).trans hr2.out
      have hb6 : Below z w w6 := hw6 ▸ hb2.out.setCell (p := ⟨z, 1, none⟩) (Nat.le_refl _) _
      have hfa := blk_free hg2.out 1
      clear h1 h2 h3
      replace hg6 := hide hg6
      replace hb6 := hide hb6
      replace hr6 := hide hr6
      go_wp2_with fail
      go_meet
      exact ⟨hg6.out, hr6.out, hb6.out⟩
    · obtain rfl : m = M := by omega
      have tc : decide ((20 : Int) < (m : Int)) = false := by rw [decide_eq_false_iff_not]; omega
      clear h1 h2 h3
      go_wp2_with fail
      go_meet
      exact ⟨hg2.out, hr2.out, hb2.out⟩
  case rest =>
  obtain ⟨hg3, hr3, hb3⟩ := hcut
  clear t1 hg2 hr2 hb2
  replace hg3 := hide hg3
  replace hr3 := hide hr3
  replace hb3 := hide hb3
  have t2 := blk_cell hg3.out 2
  go_upto_if 22 with fail
  go_cut [] (fun wx => wx.heap[z]? = some (.cells #[.slice A1 N k1, .slice A2 M k2, .slice A3 L k3, .int .i64 f, .int .i64 d, .bool a, .int .u64 (b : Int), .int .u64 (e : Int), .bool a', .int .u64 (b' : Int), .int .u64 (e' : Int)] 30 (0, 0)) ∧ wx.heap[z + 1]? = some (.cells #[.slice none 0 0, .slice none 0 0, .slice none 0 0, .int .i64 0, .int .i64 0, .bool false, .int .u64 0, .int .u64 0, .bool false, .int .u64 0, .int .u64 0] 30 (0, 0)) ∧ Below z w wx)
  case first =>
    by_cases hc : 20 < l
    · obtain ⟨⟨pb, po, ps⟩, rfl⟩ := h3.2.2 (by omega)
      obtain rfl : 20 = L := by omega
      have tc : decide ((20 : Int) < (l : Int)) = true := by rw [decide_eq_true_eq]; omega
      have i1 : (20 : Int) ≤ (k3 : Int) := by omega
      obtain ⟨w6, hw6⟩ : ∃ w6, wc.setCell ⟨z, 2, none⟩ (.slice (some ⟨pb, po, ps⟩) 20 k3) = w6 := ⟨_, rfl⟩
      have hg6 : w6.heap[z]? = some (.cells #[.slice A1 N k1, .slice A2 M k2, .slice (some ⟨pb, po, ps⟩) 20 k3, .int .i64 f, .int .i64 d, .bool a, .int .u64 (b : Int), .int .u64 (e : Int), .bool a', .int .u64 (b' : Int), .int .u64 (e' : Int)] 30 (0, 0)) := hw6 ▸ blk_set hg3.out 2 _
      have hr6 : w6.heap[z + 1]? = some (.cells #[.slice none 0 0, .slice none 0 0, .slice none 0 0, .int .i64 0, .int .i64 0, .bool false, .int .u64 0, .int .u64 0, .bool false, .int .u64 0, .int .u64 0] 30 (0, 0)) := by
        rw [← hw6]
        exact (Below.heap_setCell _ _ _ (z + 1) (by simp)).trans hr3.out
      have hb6 : Below z w w6 := hw6 ▸ hb3.out.setCell (p := ⟨z, 2, none⟩) (Nat.le_refl _) _
      have hfa := blk_free hg3.out 2
      clear h1 h2 h3
      replace hg6 := hide hg6
      replace hb6 := hide hb6
      replace hr6 := hide hr6
      go_wp2_with fail
      go_meet
      exact ⟨hg6.out, hr6.out, hb6.out⟩
    · obtain rfl : l = L := by omega
      have tc : decide ((20 : Int) < (l : Int)) = false := by rw [decide_eq_false_iff_not]; omega
      clear h1 h2 h3
      go_wp2_with fail
      go_meet
      exact ⟨hg3.out, hr3.out, hb3.out⟩
  case rest =>
  obtain ⟨hg4, hr4, hb4⟩ := hcut
  clear t2 hg3 hr3 hb3
  replace hg4 := hide hg4
  replace hr4 := hide hr4
  replace hb4 := hide hb4
  go_upto_region 7 with fail
  apply wp_region_lit
  refine wpl_ld rfl 30 (.tmp 1) rfl z rfl (#[.slice A1 N k1, .slice A2 M k2, .slice A3 L k3, .int .i64 f, .int .i64 d, .bool a, .int .u64 (b : Int), .int .u64 (e : Int), .bool a', .int .u64 (b' : Int), .int .u64 (e' : Int)]) _ hg4.out Tryd.underlying30 rfl (by kernel_rfl) ?_
  refine wpl_st rfl 30 (.tmp 2) (.tmp 27) rfl (z + 1) 0 rfl (#[.slice A1 N k1, .slice A2 M k2, .slice A3 L k3, .int .i64 f, .int .i64 d, .bool a, .int .u64 (b : Int), .int .u64 (e : Int), .bool a', .int .u64 (b' : Int), .int .u64 (e' : Int)]) rfl hr4.out (by simp) (by kernel_rfl) (cf_one _ _ _ rfl rfl rfl _ _ _ _ _ _ _ _) fun w9 hg9 g9 => ?_
  rw [putA_whole _ _ (by rfl)] at hg9
  have hb9 : Below (z) w w9 := (hb4.out).trans (below_grown g9 (by have := (hb4.out).size; omega) (by omega))
  have hld : (loadVar 30 ⟨z + 1, 0, none⟩).run Tryd.prog w9 = .ok (.agg (#[.slice A1 N k1, .slice A2 M k2, .slice A3 L k3, .int .i64 f, .int .i64 d, .bool a, .int .u64 (b : Int), .int .u64 (e : Int), .bool a', .int .u64 (b' : Int), .int .u64 (e' : Int)])) w9 := by
    simpa using run_loadVar_mid w9 (z + 1) 0 30 (#[.slice A1 N k1, .slice A2 M k2, .slice A3 L k3, .int .i64 f, .int .i64 d, .bool a, .int .u64 (b : Int), .int .u64 (e : Int), .bool a', .int .u64 (b' : Int), .int .u64 (e' : Int)]).toList _ (blk_range hg9) Tryd.underlying30 rfl (by kernel_rfl)
  clear hg9 g9
  replace hld := hide hld
  replace hb9 := hide hb9
  refine wpList_nil ?_
  go_simp
  go_wp2_with fail
  exact bodyPost_ret (v := .agg #[.slice A1 N k1, .slice A2 M k2, .slice A3 L k3, .int .i64 f, .int .i64 d, .bool a, .int .u64 (b : Int), .int .u64 (e : Int), .bool a', .int .u64 (b' : Int), .int .u64 (e' : Int)]) (by simp [results, Tryd.results6, asAddr, hld.out, Result.andThen]) rfl ⟨rfl, hb9.out⟩
theorem isT_ptr {α : Type} {f : α → List Value} {size : Nat} (hf : ∀ x, (f x).length = size) (hs : 0 < size) {w : World} {B : Nat} {A : Option Addr} {n : Nat} {es : List α} (h : IsT f size w B A n es) (hn : 0 < n) : ∃ p, A = some p := by
  obtain ⟨b, off, x, rfl, -⟩ := h.at hf hs hn
  exact ⟨_, rfl⟩
theorem cfew_any (c : Cfg) (w : World) (A1 A2 A3 : Option Addr) (k1 k2 k3 : Nat) (hR : CfgR w w.heap.size c A1 A2 A3 k1 k2 k3) (h1 : c.nodes.length ≤ k1 ∧ k1 ≤ maxLen) (h2 : c.vips.length ≤ k2 ∧ k2 ≤ maxLen) (h3 : c.views.length ≤ k3 ∧ k3 ≤ maxLen) :
    Calls Tryd.prog 6 #[.agg (cfC c (.slice A1 c.nodes.length k1) (.slice A2 c.vips.length k2) (.slice A3 c.views.length k3))] w fun r w' => r = .returned (.agg (cfC (fewC c) (.slice A1 (fewC c).nodes.length k1) (.slice A2 (fewC c).vips.length k2) (.slice A3 (fewC c).views.length k3))) ∧ Below w.heap.size w w' := by
  have e1 : (fewC c).nodes.length = min 60 c.nodes.length := List.length_take
  have e2 : (fewC c).vips.length = min 20 c.vips.length := List.length_take
  have e3 : (fewC c).views.length = min 20 c.views.length := List.length_take
  have q := cfew_raw A1 A2 A3 c.nodes.length c.vips.length c.views.length k1 k2 k3 ⟨h1.1, h1.2, isT_ptr (f := ndC) (size := 7) (fun _ => rfl) (by decide) hR.nodes⟩ ⟨h2.1, h2.2, isT_ptr (f := vpC) (size := 7) (fun _ => rfl) (by decide) hR.vips⟩ ⟨h3.1, h3.2, isT_ptr (f := vwC) (size := 5) (fun _ => rfl) (by decide) hR.views⟩ c.factor c.domain c.s0.v6 c.s1.v6 c.s0.hi c.s0.lo c.s1.hi c.s1.lo w
  rw [e1, e2, e3]
  exact q
theorem CfgR.few {w : World} {c : Cfg} {A1 A2 A3 : Option Addr} {k1 k2 k3 : Nat} (h : CfgR w w.heap.size c A1 A2 A3 k1 k2 k3) : CfgR w w.heap.size (fewC c) A1 A2 A3 k1 k2 k3 := by
  have ht : ∀ {α : Type} {f : α → List Value} {size : Nat}, (∀ x, (f x).length = size) → ∀ {A : Option Addr} {es : List α} (k : Nat), IsT f size w w.heap.size A es.length es → IsT f size w w.heap.size A (es.take k).length (es.take k) := by
    intro α f size hf A es k hx
    by_cases hk : k ≤ es.length
    · have := hx.take hf hk
      rw [List.length_take, Nat.min_eq_left hk]
      exact this
    · rw [List.take_of_length_le (by omega)]
      exact hx
  exact ⟨ht (f := ndC) (size := 7) (fun _ => rfl) 60 h.nodes, ht (f := vpC) (size := 7) (fun _ => rfl) 20 h.vips, ht (f := vwC) (size := 5) (fun _ => rfl) 20 h.views⟩
end Conf18
end Go.Proofs.YtcpokkkdmenmgaaDoor
