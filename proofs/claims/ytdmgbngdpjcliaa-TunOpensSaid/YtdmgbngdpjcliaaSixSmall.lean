/- Small functions of layer 9: how long the headers are; the law's words on parts. Conditions: slices that read as lists. -/
import Derived.Test.YtdmgbngdpjcliaaSixParse2
namespace Go.Proofs.Ytdmgbngdpjcliaa
open Go.RowKit Go.ChangeShapes Go.WideShapes Go.ChangeAt Go.Deep
namespace Six
def sumL (es : List Ext) : Nat := (es.map fun e => e.xs.length + 1).sum
theorem sumL_take {es : List Ext} {j : Nat} {e : Ext} (h : es[j]? = some e) : sumL (es.take (j + 1)) = sumL (es.take j) + (e.xs.length + 1) := by
  obtain ⟨hlt, rfl⟩ := List.getElem?_eq_some_iff.1 h
  unfold sumL
  rw [List.take_succ_eq_append_getElem hlt, List.map_append, List.sum_append]
  simp
set_option maxRecDepth 4000 in
set_option maxHeartbeats 2000000 in
theorem len_any (cls lab hop : Int) (sv : Bool) (shi slo : Int) (dv : Bool) (dhi dlo : Int) (X : Option Addr) (n c : Nat) (proto : Int) (es : List Ext) (w : World) (hx : IsX w w.heap.size X n es) (hn : n ≤ 8) (hb : ∀ e ∈ es, e.xs.length ≤ 2047) (T : Nat) (hT : 40 + sumL es = T) :
    Calls Try.prog 51 #[hdV cls lab hop sv shi slo dv dhi dlo X n c proto] w fun e w' => e = .returned (.int .i64 (T : Int)) ∧ Below w.heap.size w w' := by
  have hbox := blk_new w 29 #[.int .i64 cls, .int .i64 lab, .int .i64 hop, .bool sv, .int .u64 shi, .int .u64 slo, .bool dv, .int .u64 dhi, .int .u64 dlo, .slice X n c, .int .i64 proto]
  obtain ⟨w1, hw1⟩ : ∃ w1, w.alloc (hdC cls lab hop sv shi slo dv dhi dlo X n c proto) = w1 := ⟨_, rfl⟩
  have hb1 : Below w.heap.size w w1 := hw1 ▸ (Below.refl _ _).alloc (Nat.le_refl _) _
  unfold hdC at hw1
  rw [hw1] at hbox
  have hcg := blk_cell hbox
  have hx1 := hx.on hb1
  replace hx := hide hx
  replace hx1 := hide hx1
  replace hb1 := hide hb1
  replace hbox := hide hbox
  replace hb := hide hb
  replace hT := hide hT
  unfold hdV
  go_enter Try.func51, Try.ntmps51
  go_wp2_with fail
  clear hw1 hcg
  go_loopw [3, 9] (fun t i wr => ∃ j s : Nat, j ≤ n ∧ i = .int .i64 (j : Int) ∧ t = .int .i64 (s : Int) ∧ s = 40 + sumL (es.take j) ∧ s ≤ 40 + j * 2048 ∧ Below w1.heap.size w1 wr) (fun _ i _ => n - (intOf i).toNat)
  case atStart => exact ⟨0, 40, Nat.zero_le _, rfl, rfl, rfl, by omega, Below.refl _ _⟩
  case round =>
    obtain ⟨j, s, hj, rfl, rfl, hs, hsl, hbr⟩ := hrel
    have hxr := hx1.out.on hbr
    replace hs := hide hs
    replace hbr := hide hbr
    by_cases hlt : j < n
    · obtain ⟨b, off, k, Ae, ce, xs, rfl, hbl, hge, hc0, hc1, hbx, hxc, hxm⟩ := hxr.at hlt
      have hji : (j : Int) < (n : Int) := by omega
      have hj0 : (0 : Int) ≤ (j : Int) := by omega
      have hxl : xs.length ≤ 2047 := hb.out ⟨k, Ae, ce, xs⟩ (List.mem_of_getElem? hge)
      have hst : sumL (es.take (j + 1)) = sumL (es.take j) + (xs.length + 1) := sumL_take hge
      have hend : Below w1.heap.size w1 (wr.alloc (.cells #[.int .i64 k, .slice Ae xs.length ce] 73)) := hbr.out.alloc hbr.out.size _
      replace hend := hide hend
      replace hst := hide hst
      replace hxr := hide hxr
      replace hge := hide hge
      replace hbx := hide hbx
      go_wp2_with fail
      exact ⟨⟨j + 1, s + (xs.length + 1), by omega, by go_num, by go_num, by rw [hst.out, hs.out]; omega, by omega, hend.out⟩, by simp [intOf]; omega⟩
    · have hjn : es.take j = es := List.take_of_length_le (by have := hx.out.1; omega)
      have hji : ¬ (j : Int) < (n : Int) := by omega
      have hres : s = T := by rw [hs.out, hjn]; exact hT.out
      replace hxr := hide hxr
      replace hjn := hide hjn
      replace hres := hide hres
      go_wp2_with fail
      go_ret
      exact ⟨by rw [← hres.out]; rfl, hb1.out.trans (hbr.out.mono hb1.out.size)⟩
set_option maxRecDepth 4000 in
set_option maxHeartbeats 4000000 in
theorem lawFrag_any (X : Option Addr) (n c : Nat) (es : List Ext) (w : World) (hx : IsX w w.heap.size X n es) (hn : n ≤ maxLen) (F : Nat) (hF : beN (partB es) 1 2 = F) :
    Calls Try.prog 43 #[.slice X n c] w fun e w' => e = .returned (.tuple #[.int .i64 ((F / 8 : Nat) : Int), .bool (decide (F % 2 = 1))]) ∧ Below w.heap.size w w' := by
  unfold maxLen at hn
  obtain ⟨f8, hf8⟩ : ∃ f8, F / 8 = f8 := ⟨_, rfl⟩
  rw [hf8]
  replace hx := hide hx
  replace hF := hide hF
  replace hf8 := hide hf8
  go_enter Try.func43, Try.ntmps43
  go_wp2_with fail
  go_loopw [4] (fun i wr => ∃ j : Nat, j ≤ n ∧ i = .int .i64 (j : Int) ∧ (es.take j).find? Ext.isPart = none ∧ Below w.heap.size w wr) (fun i _ => n - (intOf i).toNat)
  case atStart => exact ⟨0, Nat.zero_le _, rfl, rfl, Below.refl _ _⟩
  case round =>
    obtain ⟨j, hj, rfl, hf, hbr⟩ := hrel
    have hxr := hx.out.on hbr
    replace hf := hide hf
    replace hbr := hide hbr
    by_cases hlt : j < n
    · obtain ⟨b, off, k, Ae, ce, xs, rfl, hbl, hge, hc0, hc1, hbx, hxc, hxm⟩ := hxr.at hlt
      have hji : (j : Int) < (n : Int) := by omega
      have hj0 : (0 : Int) ≤ (j : Int) := by omega
      replace hxr := hide hxr
      replace hge := hide hge
      by_cases hp : k = 44 ∧ xs.length = 7
      · obtain ⟨rfl, h7⟩ := hp
        have h7' : ((xs.length : Int) == 7) = true := by simp; omega
        obtain ⟨bx, ox, r1, rfl, _, hr1, hr1l, hcx1⟩ := hbx.byte (i := 1) (by omega)
        obtain ⟨r2, hr2, hr2l, hcx2⟩ := hbx.byteAt (i := 2) (by omega)
        have hfF : r1 * 256 + r2 = F := by
          rw [← hF.out]
          unfold partB
          rw [find_here hf.out hge.out (by simp [Ext.isPart, h7])]
          simp only [beN, Nat.zero_mul, Nat.zero_add, Nat.add_zero, Nat.reduceAdd, hr1, hr2]
        obtain ⟨M, hM⟩ : ∃ M, 256 * r1 = M := ⟨_, rfl⟩
        have s1 : IntKind.i64.wrap (r1 : Int) = (r1 : Int) := wraps62 _ (by omega) (by omega)
        have s2 : 256 * (r1 : Int) = (M : Int) := by omega
        have s3 : IntKind.i64.wrap (M : Int) = (M : Int) := wraps62 _ (by omega) (by omega)
        have s4 : IntKind.i64.wrap (r2 : Int) = (r2 : Int) := wraps62 _ (by omega) (by omega)
        have s5 : (M : Int) + (r2 : Int) = (F : Int) := by omega
        have s6 : IntKind.i64.wrap (F : Int) = (F : Int) := wraps62 _ (by omega) (by omega)
        have i1 : (1 : Int) < (xs.length : Int) := by omega
        have i2 : (2 : Int) < (xs.length : Int) := by omega
        have hd0 := fun l : Later wr => l.cell hc1
        have hd1 := fun l : Later wr => l.cell hcx1
        have hd2 := fun l : Later wr => l.cell hcx2
        have hFl : F < 65536 := by omega
        have q1 : (F : Int) / 8 = (f8 : Int) := by have := hf8.out; omega
        have q2 : ((F : Int) % 2 == 1) = decide (F % 2 = 1) := by
          rw [Bool.eq_iff_iff]; simp; omega
        replace h7 := hide h7
        replace hM := hide hM
        replace hfF := hide hfF
        replace hr1 := hide hr1
        replace hr2 := hide hr2
        replace hbx := hide hbx
        go_wp2_with fail
        refine wp_region_L (by as_aux_lemma => kernel_rfl) ?_
        refine wpE_seg 0 19 (fuel := 0) (by as_aux_lemma => kernel_rfl) (fun d _ _ _ _ h => by cases d <;> exact h) (by as_aux_lemma => kernel_rfl) (by as_aux_lemma => kernel_rfl) ?_
        simp only [List.drop_zero, List.take_succ_cons, List.take_zero]
        iterate 19 (refine wpQE_step (fun K hK => ?_); go_simp; refine hK _ ?_; clear hK K)
        refine wpQE_nil ?_
        refine wpE_done (by as_aux_lemma => kernel_rfl) (fun w3 hb3 => ?_) 0
        have hb03 := hbr.out.trans (hb3.mono hbr.out.size)
        clear hd0 hd1 hd2 hb3
        replace hb03 := hide hb03
        go_wp2_with fail
        go_ret2
        exact ⟨rfl, hb03.out⟩
      · have hnp : Ext.isPart ⟨k, Ae, ce, xs⟩ = false := by simp [Ext.isPart]; intro h; exact fun h2 => hp ⟨h, h2⟩
        have hfn := find_on hf.out hge.out hnp
        replace hfn := hide hfn
        replace hnp := hide hnp
        replace hbx := hide hbx
        by_cases hk : k = 44
        · have hk' : (k == 44) = true := by simp [hk]
          have h7' : ((xs.length : Int) == 7) = false := by simp; omega
          replace hk := hide hk
          clear hp
          go_wp2_with fail
          exact ⟨⟨j + 1, by omega, by go_num, hfn.out, hbr.out⟩, by simp [intOf]; omega⟩
        · have hk' : (k == 44) = false := by simp [hk]
          clear hp
          go_wp2_with fail
          exact ⟨⟨j + 1, by omega, by go_num, hfn.out, hbr.out⟩, by simp [intOf]; omega⟩
    · have hjn : es.take j = es := List.take_of_length_le (by have := hx.out.1; omega)
      have hji : ¬ (j : Int) < (n : Int) := by omega
      have h0 : F = 0 := by
        have h1 := hf.out
        rw [hjn] at h1
        rw [← hF.out]
        unfold partB
        rw [h1]
        rfl
      have h8 : f8 = 0 := by rw [← hf8.out, h0]
      subst h0 h8
      replace hxr := hide hxr
      replace hjn := hide hjn
      go_wp2_with fail
      go_ret2
      exact ⟨rfl, hbr.out⟩
end Six
end Go.Proofs.Ytdmgbngdpjcliaa
