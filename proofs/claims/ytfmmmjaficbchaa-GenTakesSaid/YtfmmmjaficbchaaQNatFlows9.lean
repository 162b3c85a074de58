/- six.Parse by contract. Conditions: slices of bytes that read as lists. -/
import Derived.Test.YtfmmmjaficbchaaQNatFlows8
import Derived.Test.YtfmmmjaficbchaaQNatFlows6
import Derived.Test.YtfmmmjaficbchaaQNatFlows3
import Derived.Test.YtfmmmjaficbchaaQNatFlows4
namespace Go.Proofs.Ytfmmmjaficbchaa
open Go.RowKit Go.ChangeShapes Go.WideShapes Go.ChangeAt Go.Deep
namespace Six
set_option maxRecDepth 20000 in
set_option maxHeartbeats 4000000 in
theorem parse_any (A : Option Addr) (n c : Nat) (xs : List UInt8) (w : World) (hx : IsB w w.heap.size A n xs) (hnc : n ≤ c) (hcm : c ≤ maxLen) (hnm : n ≤ 1099511627776)
    (cls lab hop shi slo dhi dlo : Nat) (q1 : beN xs 0 4 / 1048576 % 256 = cls) (q2 : beN xs 0 4 % 1048576 = lab) (q3 : (xs.getD 7 0).toNat = hop) (q4 : beN xs 8 8 = shi) (q5 : beN xs 16 8 = slo) (q6 : beN xs 24 8 = dhi) (q7 : beN xs 32 8 = dlo) :
    Calls Try.prog 55 #[.slice A n c] w fun e w' => Ends (parseK n xs) (parseR xs) cls lab hop shi slo dhi dlo w w' e := by
  have q1' := hide q1
  have q2' := hide q2
  have q3' := hide q3
  have q4' := hide q4
  have q5' := hide q5
  have q6' := hide q6
  have q7' := hide q7
  clear q1 q2 q3 q4 q5 q6 q7
  have hbox := blk_new w 98 #[.int .i64 0, .int .i64 0, .int .i64 0, .bool false, .int .u64 0, .int .u64 0, .bool false, .int .u64 0, .int .u64 0, .slice none 0 0, .int .i64 0]
  have hb1 : Below w.heap.size w (w.alloc (hdC 0 0 0 false 0 0 false 0 0 none 0 0 0)) := (Below.refl _ _).alloc (Nat.le_refl _) _
  obtain ⟨w1, hw1⟩ : ∃ w1, w.alloc (hdC 0 0 0 false 0 0 false 0 0 none 0 0 0) = w1 := ⟨_, rfl⟩
  have hlt1 : w.heap.size < w1.heap.size := by rw [← hw1]; simp
  unfold hdC at hw1 hb1
  rw [hw1] at hbox hb1
  have hcg := blk_cell hbox
  have hfg := blk_free hbox
  have hx1 := hx.on hb1
  by_cases h1 : n < 40
  · have e : parseK n xs = 2 := by unfold parseK; rw [if_pos h1]
    rw [e]
    replace hbox := hide hbox
    replace hb1 := hide hb1
    replace hx1 := hide hx1
    clear hx e
    go_enter Try.func55, Try.ntmps55
    go_wp2_with fail
    refine bodyPost_ret (v := .tuple #[hd0, .slice none 0 0, .int .i64 2]) (by simp [results, Try.results55, go_sem, hcg]) rfl ⟨fun _ => rfl, (fun h => by cases h), ?_⟩
    iterate 11 refine below_set ?_ (by rfl) _
    exact hb1.out
  obtain ⟨b, off, v0, rfl, hbl, hv0, hv0l, hc0⟩ := hx1.byte (i := 0) (by omega)
  rw [Nat.add_zero] at hc0
  have i0 : 0 < n := by omega
  have k0 : (0 : Int) < (n : Int) := by omega
  by_cases h2 : v0 / 16 = 6
  · have hb : (((v0 : Int) / 16) != 6) = false := by rw [bne_eq_false_iff_eq]; omega
    have h40 : 40 ≤ n := by omega
    have q1 := q1'.out
    have q2 := q2'.out
    have q3 := q3'.out
    have q4 := q4'.out
    have q5 := q5'.out
    have q6 := q6'.out
    have q7 := q7'.out
    clear q1' q2' q3' q4' q5' q6' q7'
    obtain ⟨sz, hsz⟩ : ∃ sz, beN xs 4 2 = sz := ⟨_, rfl⟩
    have hszl : sz < 65536 := by rw [← hsz]; exact beN_lt xs 4 2
    have ksub : ((n : Int) - 40) = ((n - 40 : Nat) : Int) := by omega
    have rsz : IntKind.i64.wrap (sz : Int) = (sz : Int) := wraps62 _ (by omega) (by omega)
    by_cases h3 : n - 40 < sz
    · have e : parseK n xs = 12 := by unfold parseK; rw [if_neg h1, if_neg (by omega), hsz, if_pos h3]
      rw [e]
      have t3 : (n : Int) - 40 < (sz : Int) := by omega
      replace hv0 := hide hv0
      replace hsz := hide hsz
      replace hbox := hide hbox
      replace hb1 := hide hb1
      replace hx1 := hide hx1
      clear hx e h1 ksub rsz q1 q2 q3 q4 q5 q6 q7
      go_enter Try.func55, Try.ntmps55
      go_wp2_with fail
      refine (Octet.at_lit _ _ 4 2 rfl rfl _ _ _ xs _ hx1.out (by unfold maxLen; omega) (by omega) (by omega)).mono ?_
      rintro e w' ⟨rfl, rfl⟩
      rw [hsz.out]
      go_wp2_with fail
      refine bodyPost_ret (v := .tuple #[hd0, .slice none 0 0, .int .i64 12]) (by simp [results, Try.results55, go_sem, hcg]) rfl ⟨fun _ => rfl, (fun h => by cases h), ?_⟩
      iterate 11 refine below_set ?_ (by rfl) _
      exact hb1.out
    have t3 : ¬ (n : Int) - 40 < (sz : Int) := by omega
    obtain ⟨R, hR⟩ : ∃ R, chainF 9 (xs.getD 6 0).toNat ((xs.take (40 + sz)).drop 40) [] = R := ⟨_, rfl⟩
    have e : parseK n xs = if R.isNone then 11 else 0 := by unfold parseK; rw [if_neg h1, if_neg (by omega), hsz, if_neg h3, hR]
    have e2 : parseR xs = R := by unfold parseR; rw [hsz]; exact hR
    rw [e, e2]
    have hxt := hx1.take (m := 40 + sz) (by omega)
    have g1 := beN_take xs (40 + sz) 0 4 (by omega)
    have g2 := getD_take xs (40 + sz) 7 (by omega)
    have g3 := beN_take xs (40 + sz) 8 8 (by omega)
    have g4 := beN_take xs (40 + sz) 16 8 (by omega)
    have g5 := beN_take xs (40 + sz) 24 8 (by omega)
    have g6 := beN_take xs (40 + sz) 32 8 (by omega)
    have g7 := getD_take xs (40 + sz) 6 (by omega)
    obtain ⟨ts, hts⟩ : ∃ ts, xs.take (40 + sz) = ts := ⟨_, rfl⟩
    rw [hts] at g1 g2 g3 g4 g5 g6 g7 hxt hR
    rw [← g1] at q1 q2
    rw [← g2] at q3
    rw [← g3] at q4
    rw [← g4] at q5
    rw [← g5] at q6
    rw [← g6] at q7
    rw [← g7] at hR
    clear g1 g2 g3 g4 g5 g6 g7 ksub
    obtain ⟨m, hm⟩ : ∃ m, 40 + sz = m := ⟨_, rfl⟩
    have hmn : m ≤ n := by omega
    have h40m : 40 ≤ m := by omega
    have kmI : 40 + (sz : Int) = (m : Int) := by omega
    rw [hm] at hxt
    have kmc : (m : Int) ≤ (c : Int) := by omega
    have k0m : (0 : Int) ≤ (m : Int) := by omega
    have jmc : m ≤ c := by omega
    replace q1 := hide q1
    replace q2 := hide q2
    replace q3 := hide q3
    replace q4 := hide q4
    replace q5 := hide q5
    replace q6 := hide q6
    replace q7 := hide q7
    replace hts := hide hts
    replace hm := hide hm
    replace hsz := hide hsz
    replace hxt := hide hxt
    replace hv0 := hide hv0
    replace hR := hide hR
    replace hbox := hide hbox
    replace hb1 := hide hb1
    replace hx1 := hide hx1
    clear hx e e2 h1
    go_enter Try.func55, Try.ntmps55
    go_wp2_with fail
    refine (Octet.at_lit _ _ 4 2 rfl rfl _ _ _ xs _ hx1.out (by unfold maxLen; omega) (by omega) (by omega)).mono ?_
    rintro e w' ⟨rfl, rfl⟩
    rw [hsz.out]
    go_wp2_with fail
    refine (chain_any _ m c ts _ hxt.out jmc hcm (by omega) h40m cls lab hop shi slo dhi dlo q1.out q2.out q3.out q4.out q5.out q6.out q7.out R hR.out).mono ?_
    rintro e w2 ⟨hn, hs, hb2⟩
    clear hw1 hcg hfg hc0
    have hg2 := blk_below hb2 hlt1 hbox.out
    have hcg := blk_cell hg2
    have hfg := blk_free hg2
    have hB2 := hb1.out.trans (hb2.mono (Nat.le_of_lt hlt1))
    clear hb2
    replace hg2 := hide hg2
    replace hB2 := hide hB2
    rcases R with _ | ⟨acc, next, rest⟩
    · obtain rfl := hn rfl
      clear hs hn
      go_wp2_with fail
      refine bodyPost_ret (v := .tuple #[hd0, .slice none 0 0, .int .i64 11]) (by simp [results, Try.results55, go_sem, hcg]) rfl ⟨fun _ => rfl, (fun h => by simp at h), ?_⟩
      iterate 11 refine below_set ?_ (by rfl) _
      exact hB2.out
    · obtain ⟨X, xc, es, A2, c2, rfl, hes, hX, hr⟩ := hs acc next rest rfl
      obtain ⟨w8, e8, hg8, hgr8⟩ := set11 hg2.out (.int .i64 cls) (.int .i64 lab) (.int .i64 hop) (.bool true) (.int .u64 shi) (.int .u64 slo) (.bool true) (.int .u64 dhi) (.int .u64 dlo) (.slice X es.length xc) (.int .i64 (next : Int))
      have hX8 := (hX.kept hgr8 hlt1).weaken (Nat.le_of_lt hlt1)
      have hr8 := (OwnB.kept hr hgr8 (own_not hr hlt1)).weaken (Nat.le_of_lt hlt1)
      have hB8 := hB2.out.trans (below_of_grown hgr8 hB2.out.size (by intro k hk; cases hk; exact Nat.le_refl _))
      clear hn hs hX hr hgr8
      replace hX8 := hide hX8
      replace hr8 := hide hr8
      replace hB8 := hide hB8
      replace hes := hide hes
      replace hg8 := hide hg8
      go_wp2_with fail
      have hcg8 := blk_cell hg8.out
      exact bodyPost_ret (v := .tuple #[hdV cls lab hop true shi slo true dhi dlo X es.length xc next, .slice A2 rest.length c2, .int .i64 0]) (by simp [results, Try.results55, go_sem, hcg8]) rfl ⟨fun h => absurd rfl h, fun _ => ⟨acc, next, rest, rfl, X, xc, es, A2, c2, rfl, hes.out, hX8.out, hr8.out⟩, hB8.out⟩
  · have hb : (((v0 : Int) / 16) != 6) = true := by rw [bne_iff_ne]; omega
    have e : parseK n xs = 10 := by unfold parseK; rw [if_neg h1, if_pos (by omega)]
    rw [e]
    replace hbox := hide hbox
    replace hb1 := hide hb1
    replace hx1 := hide hx1
    replace hv0 := hide hv0
    clear hx e
    go_enter Try.func55, Try.ntmps55
    go_wp2_with fail
    refine bodyPost_ret (v := .tuple #[hd0, .slice none 0 0, .int .i64 10]) (by simp [results, Try.results55, go_sem, hcg]) rfl ⟨fun _ => rfl, (fun h => by cases h), ?_⟩
    iterate 11 refine below_set ?_ (by rfl) _
    exact hb1.out
end Six
end Go.Proofs.Ytfmmmjaficbchaa
/- Small functions of layer 9: how long the headers are; the law's words on parts. Conditions: slices that read as lists. -/
namespace Go.Proofs.Ytfmmmjaficbchaa
open Go.RowKit Go.ChangeShapes Go.WideShapes Go.ChangeAt Go.Deep
namespace Six
def sumL (es : List Ext) : Nat := (es.map fun e => e.xs.length + 1).sum
theorem sumL_take {es : List Ext} {j : Nat} {e : Ext} (h : es[j]? = some e) : sumL (es.take (j + 1)) = sumL (es.take j) + (e.xs.length + 1) := by
  obtain ⟨hlt, rfl⟩ := List.getElem?_eq_some_iff.1 h
  unfold sumL
  rw [List.take_succ_eq_append_getElem hlt, List.map_append, List.sum_append]
  simp
set_option maxRecDepth 4000 in
set_option maxHeartbeats 2000000 in
theorem len_any (cls lab hop : Int) (sv : Bool) (shi slo : Int) (dv : Bool) (dhi dlo : Int) (X : Option Addr) (n c : Nat) (proto : Int) (es : List Ext) (w : World) (hx : IsX w w.heap.size X n es) (hn : n ≤ 8) (hb : ∀ e ∈ es, e.xs.length ≤ 2047) (T : Nat) (hT : 40 + sumL es = T) :
    Calls Try.prog 56 #[hdV cls lab hop sv shi slo dv dhi dlo X n c proto] w fun e w' => e = .returned (.int .i64 (T : Int)) ∧ Below w.heap.size w w' := by
  have hbox := blk_new w 98 #[.int .i64 cls, .int .i64 lab, .int .i64 hop, .bool sv, .int .u64 shi, .int .u64 slo, .bool dv, .int .u64 dhi, .int .u64 dlo, .slice X n c, .int .i64 proto]
  obtain ⟨w1, hw1⟩ : ∃ w1, w.alloc (hdC cls lab hop sv shi slo dv dhi dlo X n c proto) = w1 := ⟨_, rfl⟩
  have hb1 : Below w.heap.size w w1 := hw1 ▸ (Below.refl _ _).alloc (Nat.le_refl _) _
  unfold hdC at hw1
  rw [hw1] at hbox
  have hcg := blk_cell hbox
  have hx1 := hx.on hb1
  replace hx := hide hx
  replace hx1 := hide hx1
  replace hb1 := hide hb1
  replace hbox := hide hbox
  replace hb := hide hb
  replace hT := hide hT
  unfold hdV
  go_enter Try.func56, Try.ntmps56
  go_wp2_with fail
  clear hw1 hcg
  go_loopw [3, 9] (fun t i wr => ∃ j s : Nat, j ≤ n ∧ i = .int .i64 (j : Int) ∧ t = .int .i64 (s : Int) ∧ s = 40 + sumL (es.take j) ∧ s ≤ 40 + j * 2048 ∧ Below w1.heap.size w1 wr) (fun _ i _ => n - (intOf i).toNat)
  case atStart => exact ⟨0, 40, Nat.zero_le _, rfl, rfl, rfl, by omega, Below.refl _ _⟩
  case round =>
    obtain ⟨j, s, hj, rfl, rfl, hs, hsl, hbr⟩ := hrel
    have hxr := hx1.out.on hbr
    replace hs := hide hs
    replace hbr := hide hbr
    by_cases hlt : j < n
    · obtain ⟨b, off, k, Ae, ce, xs, rfl, hbl, hge, hc0, hc1, hbx, hxc, hxm⟩ := hxr.at hlt
      have hji : (j : Int) < (n : Int) := by omega
      have hj0 : (0 : Int) ≤ (j : Int) := by omega
      have hxl : xs.length ≤ 2047 := hb.out ⟨k, Ae, ce, xs⟩ (List.mem_of_getElem? hge)
      have hst : sumL (es.take (j + 1)) = sumL (es.take j) + (xs.length + 1) := sumL_take hge
      have hend : Below w1.heap.size w1 (wr.alloc (.cells #[.int .i64 k, .slice Ae xs.length ce] 121)) := hbr.out.alloc hbr.out.size _
      replace hend := hide hend
      replace hst := hide hst
      replace hxr := hide hxr
      replace hge := hide hge
      replace hbx := hide hbx
      go_wp2_with fail
      exact ⟨⟨j + 1, s + (xs.length + 1), by omega, by go_num, by go_num, by rw [hst.out, hs.out]; omega, by omega, hend.out⟩, by simp [intOf]; omega⟩
    · have hjn : es.take j = es := List.take_of_length_le (by have := hx.out.1; omega)
      have hji : ¬ (j : Int) < (n : Int) := by omega
      have hres : s = T := by rw [hs.out, hjn]; exact hT.out
      replace hxr := hide hxr
      replace hjn := hide hjn
      replace hres := hide hres
      go_wp2_with fail
      go_ret
      exact ⟨by rw [← hres.out]; rfl, hb1.out.trans (hbr.out.mono hb1.out.size)⟩
end Six
end Go.Proofs.Ytfmmmjaficbchaa
/- icmp.Error and icmp.Quoted by contract. Conditions: slices of bytes that read as lists. -/
namespace Go.Proofs.Ytfmmmjaficbchaa
open Go.RowKit Go.ChangeShapes Go.WideShapes Go.ChangeAt Go.Deep
namespace Icmp
/-- Does a type tell of an error? -/
def errB (v6 : Bool) (k : Int) : Bool := if v6 then decide (1 ≤ k ∧ k ≤ 4) else decide (k = 3 ∨ k = 4 ∨ k = 5 ∨ k = 11 ∨ k = 12)
theorem error_any (v6 : Bool) (k : Int) (w : World) : Calls Try.prog 99 #[.bool v6, .int .i64 k] w fun e w' => e = .returned (.bool (errB v6 k)) ∧ w = w' := by
  rcases v6 with _ | _
  · by_cases h0 : k = 3
    · subst h0
      go_enter Try.func99, Try.ntmps99
      go_wp2_with fail
      go_ret
      exact ⟨rfl, rfl⟩
    by_cases h1 : k = 4
    · subst h1
      go_enter Try.func99, Try.ntmps99
      go_wp2_with fail
      go_ret
      exact ⟨rfl, rfl⟩
    by_cases h2 : k = 5
    · subst h2
      go_enter Try.func99, Try.ntmps99
      go_wp2_with fail
      go_ret
      exact ⟨rfl, rfl⟩
    by_cases h3 : k = 11
    · subst h3
      go_enter Try.func99, Try.ntmps99
      go_wp2_with fail
      go_ret
      exact ⟨rfl, rfl⟩
    have e : ∀ b : Bool, (k == 12) = b → errB false k = b := by
      intro b hb
      subst hb
      unfold errB
      by_cases h4 : k = 12 <;> simp [h0, h1, h2, h3, h4]
    have t0 : (k == 3) = false := by simp [h0]
    have t1 : (k == 4) = false := by simp [h1]
    have t2 : (k == 5) = false := by simp [h2]
    have t3 : (k == 11) = false := by simp [h3]
    rw [e _ rfl]
    clear h0 h1 h2 h3 e
    go_enter Try.func99, Try.ntmps99
    go_wp2_with fail
    all_goals (go_ret; exact ⟨rfl, rfl⟩)
  · by_cases h1 : 1 ≤ k
    · by_cases h2 : k ≤ 4
      · go_enter Try.func99, Try.ntmps99
        go_wp2_with fail
        go_ret
        exact ⟨ret_bool (by simp [errB, h1, h2]), rfl⟩
      · go_enter Try.func99, Try.ntmps99
        go_wp2_with fail
        go_ret
        exact ⟨ret_bool (by simp [errB, h1, h2]), rfl⟩
    · go_enter Try.func99, Try.ntmps99
      go_wp2_with fail
      go_ret
      exact ⟨ret_bool (by simp [errB]; omega), rfl⟩
theorem set9 {w : World} {g : Nat} {t : TypeId} {a0 a1 a2 a3 a4 a5 a6 a7 a8 : Value} (h : w.heap[g]? = some (.cells #[a0, a1, a2, a3, a4, a5, a6, a7, a8] t (0, 0))) (v0 v1 v2 v3 v4 v5 v6 v7 v8 : Value) :
    ∃ w', (((((((((w.setCell ⟨g, 0, none⟩ v0).setCell ⟨g, 1, none⟩ v1).setCell ⟨g, 2, none⟩ v2).setCell ⟨g, 3, none⟩ v3).setCell ⟨g, 4, none⟩ v4).setCell ⟨g, 5, none⟩ v5).setCell ⟨g, 6, none⟩ v6).setCell ⟨g, 7, none⟩ v7).setCell ⟨g, 8, none⟩ v8) = w' ∧ w'.heap[g]? = some (.cells #[v0, v1, v2, v3, v4, v5, v6, v7, v8] t (0, 0)) ∧ w.grownBy w' (some g) := by
  refine ⟨_, rfl, ?_, ?_⟩
  · simpa using (blk_set (blk_set (blk_set (blk_set (blk_set (blk_set (blk_set (blk_set (blk_set h 0 v0) 1 v1) 2 v2) 3 v3) 4 v4) 5 v5) 6 v6) 7 v7) 8 v8)
  · iterate 9 refine grown_set ?_ rfl _
    exact grown_refl _ _
theorem grown_below {w w' : World} {g B : Nat} (h : w.grownBy w' (some g)) (hB : B ≤ w.heap.size) (hg : B ≤ g) : Below B w w' := below_of_grown h hB (by intro k hk; cases hk; exact hg)
theorem grown_blk {w w' : World} {g k : Nat} {x : Option Obj} (h : w.grownBy w' (some g)) (hk : k < w.heap.size) (hne : k ≠ g) (hx : w.heap[k]? = x) : w'.heap[k]? = x := (h.block k hk (by simpa using hne)).trans hx
/-- Bytes stay when a block is written whose cells they are not. -/
theorem isB_grown {w w' : World} {g B n : Nat} {A : Option Addr} {xs : List UInt8} (h : IsB w B A n xs) (hg : w.grownBy w' (some g)) (hB : B ≤ w.heap.size) {v0 : Value} (h0 : ∀ i, w.cell? ⟨g, i, none⟩ = none ∨ ∃ v, w.cell? ⟨g, i, none⟩ = some v ∧ ∀ z, v ≠ .int .u8 z) (_ : v0 = v0) : IsB w' B A n xs := by
  refine ⟨h.1, fun hn => ?_⟩
  obtain ⟨b, off, e, hb, hc⟩ := h.2 hn
  refine ⟨b, off, e, hb, fun i hi => ?_⟩
  have hne : b ≠ g := by
    rintro rfl
    have h1 := hc i hi
    rcases h0 (off + i) with h2 | ⟨v, h2, h3⟩
    · rw [h2] at h1; cases h1
    · rw [h2] at h1
      cases h1
      exact h3 _ rfl
  rw [← hc i hi]
  exact World.cell?_of_block (hg.block b (Nat.lt_of_lt_of_le hb hB) (by simpa using hne))
/-! ### What is quoted -/
/-- A flow, as a value. -/
abbrev tuV (proto : Int) (sv : Bool) (shi slo : Int) (dv : Bool) (dhi dlo sp dp : Int) : Value := .agg #[.int .i64 proto, .bool sv, .int .u64 shi, .int .u64 slo, .bool dv, .int .u64 dhi, .int .u64 dlo, .int .i64 sp, .int .i64 dp]
abbrev tuC (proto : Int) (sv : Bool) (shi slo : Int) (dv : Bool) (dhi dlo sp dp : Int) : Obj := .cells #[.int .i64 proto, .bool sv, .int .u64 shi, .int .u64 slo, .bool dv, .int .u64 dhi, .int .u64 dlo, .int .i64 sp, .int .i64 dp] 32
abbrev tu0 : Value := tuV 0 false 0 0 false 0 0 0 0
/-- What bytes quote, in version 6 or 4: why nothing (K), or what. -/
def QIs (v6 : Bool) (n : Nat) (xs : List UInt8) (K proto shi slo dhi dlo frag : Nat) (rest : List UInt8) : Prop :=
  if v6 = true then K = Six.quoteK n xs ∧ (K = 0 → ∃ acc, Six.quoteR xs = some (acc, proto, rest) ∧ frag = Six.fragP acc ∧ shi = beN xs 8 8 ∧ slo = beN xs 16 8 ∧ dhi = beN xs 24 8 ∧ dlo = beN xs 32 8)
  else K = Four.quoteK n xs ∧ (K = 0 → proto = (xs.getD 9 0).toNat ∧ shi = 0 ∧ slo = beN xs 12 4 ∧ dhi = 0 ∧ dlo = beN xs 16 4 ∧ frag = beN xs 6 2 % 8192 ∧ rest = xs.drop ((xs.getD 0 0).toNat % 16 * 4))
theorem qIs_some (v6 : Bool) (n : Nat) (xs : List UInt8) : ∃ K proto shi slo dhi dlo frag rest, QIs v6 n xs K proto shi slo dhi dlo frag rest := by
  rcases v6 with _ | _
  · exact ⟨_, _, _, _, _, _, _, _, by unfold QIs; rw [if_neg (by simp)]; exact ⟨rfl, fun _ => ⟨rfl, rfl, rfl, rfl, rfl, rfl, rfl⟩⟩⟩
  · rcases hR : Six.quoteR xs with _ | ⟨acc, next, rest⟩
    · refine ⟨Six.quoteK n xs, 0, 0, 0, 0, 0, 0, [], ?_⟩
      unfold QIs
      rw [if_pos rfl]
      refine ⟨rfl, fun h => ?_⟩
      unfold Six.quoteR at hR
      unfold Six.quoteK at h
      rw [hR] at h
      split at h
      · cases h
      · split at h <;> simp at h
    · exact ⟨_, next, _, _, _, _, _, rest, by unfold QIs; rw [if_pos rfl, hR]; exact ⟨rfl, fun _ => ⟨acc, rfl, rfl, rfl, rfl, rfl, rfl⟩⟩⟩
theorem four_fail (n : Nat) (xs : List UInt8) (K proto shi slo dhi dlo frag : Nat) (rest : List UInt8) (hQ : QIs false n xs K proto shi slo dhi dlo frag rest) (hK : K ≠ 0) (A : Option Addr) (c : Nat) (w : World) (hx : IsB w w.heap.size A n xs) (hnc : n ≤ c) (_hcm : c ≤ maxLen) (hnm : n ≤ 1099511627776) :
    Calls Try.prog 101 #[.slice A n c] w fun e w' => e = .returned (.tuple #[Four.hd0, .slice none 0 0, .int .i64 (K : Int)]) ∧ Below w.heap.size w w' := by
  unfold QIs at hQ
  rw [if_neg (by simp)] at hQ
  exact Four.quote_no A n c xs w hx hnc hnm K hQ.1.symm hK
theorem four_ok (n : Nat) (xs : List UInt8) (proto shi slo dhi dlo frag : Nat) (rest : List UInt8) (hQ : QIs false n xs 0 proto shi slo dhi dlo frag rest) (A : Option Addr) (c : Nat) (w : World) (hx : IsB w w.heap.size A n xs) (hnc : n ≤ c) (hcm : c ≤ maxLen) (hnm : n ≤ 1099511627776) :
    Calls Try.prog 101 #[.slice A n c] w fun e w' => ∃ (tos id : Nat) (df mf : Bool) (ttl : Nat) (A1 : Option Addr) (n1 c1 : Nat) (A2 : Option Addr) (c2 : Nat), e = .returned (.tuple #[Four.hdV tos id df mf frag ttl proto false shi slo false dhi dlo A1 n1 c1, .slice A2 rest.length c2, .int .i64 0]) ∧ OwnB w' w.heap.size (.slice A2 rest.length c2) rest ∧ Below w.heap.size w w' := by
  unfold QIs at hQ
  rw [if_neg (by simp)] at hQ
  obtain ⟨hk, h⟩ := hQ
  obtain ⟨rfl, rfl, rfl, rfl, rfl, rfl, rfl⟩ := h rfl
  unfold Four.quoteK at hk
  split at hk
  · cases hk
  rename_i h1
  split at hk
  · cases hk
  rename_i h2
  split at hk
  · cases hk
  rename_i h3
  refine (Four.quote_ok A n c xs w hx hnc hcm hnm (by omega) (by omega) _ rfl (by omega) (by omega)).mono ?_
  rintro e w' ⟨A1, c1, A2, c2, rfl, i1, i2, i3, i4, i5⟩
  have hl : (xs.drop ((xs.getD 0 0).toNat % 16 * 4)).length = n - (xs.getD 0 0).toNat % 16 * 4 := by rw [List.length_drop, hx.1]
  rw [hl]
  exact ⟨_, _, _, _, _, A1, _, c1, A2, c2, rfl, i4, i5⟩
theorem six_fail (n : Nat) (xs : List UInt8) (K proto shi slo dhi dlo frag : Nat) (rest : List UInt8) (hQ : QIs true n xs K proto shi slo dhi dlo frag rest) (hK : K ≠ 0) (A : Option Addr) (c : Nat) (w : World) (hx : IsB w w.heap.size A n xs) (hnc : n ≤ c) (hcm : c ≤ maxLen) (hnm : n ≤ 1099511627776) :
    Calls Try.prog 100 #[.slice A n c] w fun e w' => e = .returned (.tuple #[Six.hd0, .slice none 0 0, .int .i64 (K : Int)]) ∧ Below w.heap.size w w' := by
  unfold QIs at hQ
  rw [if_pos rfl] at hQ
  obtain ⟨rfl, _⟩ := hQ
  exact (Six.quote_any A n c xs w hx hnc hcm hnm _ _ _ _ _ _ _ rfl rfl rfl rfl rfl rfl rfl).mono fun e w' ⟨h1, _, h3⟩ => ⟨h1 hK, h3⟩
theorem six_ok (n : Nat) (xs : List UInt8) (proto shi slo dhi dlo frag : Nat) (rest : List UInt8) (hQ : QIs true n xs 0 proto shi slo dhi dlo frag rest) (A : Option Addr) (c : Nat) (w : World) (hx : IsB w w.heap.size A n xs) (hnc : n ≤ c) (hcm : c ≤ maxLen) (hnm : n ≤ 1099511627776) :
    Calls Try.prog 100 #[.slice A n c] w fun e w' => ∃ (cls lab hop : Nat) (X : Option Addr) (xc : Nat) (es : List Six.Ext) (A2 : Option Addr) (c2 : Nat), e = .returned (.tuple #[Six.hdV cls lab hop true shi slo true dhi dlo X es.length xc proto, .slice A2 rest.length c2, .int .i64 0]) ∧ Six.OwnX w' w.heap.size X xc es ∧ beN (Six.partB es) 1 2 / 8 = frag ∧ OwnB w' w.heap.size (.slice A2 rest.length c2) rest ∧ Below w.heap.size w w' := by
  unfold QIs at hQ
  rw [if_pos rfl] at hQ
  obtain ⟨hk, h⟩ := hQ
  obtain ⟨acc, hR, rfl, rfl, rfl, rfl, rfl⟩ := h rfl
  refine (Six.quote_any A n c xs w hx hnc hcm hnm _ _ _ _ _ _ _ rfl rfl rfl rfl rfl rfl rfl).mono fun e w' ⟨_, h2, h3⟩ => ?_
  obtain ⟨acc', next', rest', hR', X, xc, es, A2, c2, rfl, hes, hX, hr⟩ := h2 hk.symm
  rw [hR] at hR'
  cases hR'
  exact ⟨_, _, _, X, xc, es, A2, c2, rfl, hX, by rw [Six.partB_eq, hes]; rfl, hr, h3⟩
set_option maxRecDepth 4000 in
set_option maxHeartbeats 4000000 in
theorem quoted_no (v6 : Bool) (ty cd wd : Int) (A : Option Addr) (n c : Nat) (w : World) (hE : errB v6 ty = false) :
    Calls Try.prog 96 #[.bool v6, .agg #[.int .i64 ty, .int .i64 cd, .int .u32 wd, .slice A n c]] w fun e w' => e = .returned (.tuple #[tu0, .int .i64 24]) ∧ Below w.heap.size w w' := by
  obtain ⟨w1, hw1⟩ : ∃ w1, (w.alloc (.cells #[.int .i64 ty, .int .i64 cd, .int .u32 wd, .slice A n c] 138)).alloc (tuC 0 false 0 0 false 0 0 0 0) = w1 := ⟨_, rfl⟩
  have hb1 : Below w.heap.size w w1 := hw1 ▸ ((Below.refl _ _).alloc (Nat.le_refl _) _).alloc (by simp) _
  have hgm : w1.heap[w.heap.size]? = some (.cells #[.int .i64 ty, .int .i64 cd, .int .u32 wd, .slice A n c] 138 (0, 0)) := by rw [← hw1]; exact blk_old _ (by simp) (blk_new _ _ _)
  have hgr : w1.heap[w.heap.size + 1]? = some (.cells #[.int .i64 0, .bool false, .int .u64 0, .int .u64 0, .bool false, .int .u64 0, .int .u64 0, .int .i64 0, .int .i64 0] 32 (0, 0)) := by
    have := blk_new (w.alloc (.cells #[.int .i64 ty, .int .i64 cd, .int .u32 wd, .slice A n c] 138)) 32 #[.int .i64 0, .bool false, .int .u64 0, .int .u64 0, .bool false, .int .u64 0, .int .u64 0, .int .i64 0, .int .i64 0]
    have hw1' := hw1
    unfold tuC at hw1'
    rw [hw1'] at this
    simpa using this
  unfold tuC at hw1
  have hcm1 := blk_cell hgm
  have hcg := blk_cell hgr
  have hfg := blk_free hgr
  replace hb1 := hide hb1
  replace hgm := hide hgm
  replace hgr := hide hgr
  replace hE := hide hE
  go_enter Try.func96, Try.ntmps96
  go_wp2_with fail
  refine (error_any v6 ty _).mono ?_
  rw [hE.out]
  rintro e w' ⟨rfl, rfl⟩
  clear hw1
  go_wp2_with fail
  refine bodyPost_ret (v := .tuple #[tu0, .int .i64 24]) (by simp [results, Try.results96, go_sem, hcg]) rfl ⟨rfl, ?_⟩
  iterate 9 refine Below.setCell ?_ (by simp) _
  exact hb1.out
set_option maxRecDepth 4000 in
set_option maxHeartbeats 4000000 in
theorem quoted_fail (v6 : Bool) (ty cd wd : Int) (A : Option Addr) (n c : Nat) (xs : List UInt8) (w : World) (hx : IsB w w.heap.size A n xs) (hnc : n ≤ c) (hcm : c ≤ maxLen) (hnm : n ≤ 1099511627776) (hE : errB v6 ty = true)
    (K proto shi slo dhi dlo frag : Nat) (rest : List UInt8) (hQ : QIs v6 n xs K proto shi slo dhi dlo frag rest) (hK : K ≠ 0) :
    Calls Try.prog 96 #[.bool v6, .agg #[.int .i64 ty, .int .i64 cd, .int .u32 wd, .slice A n c]] w fun e w' => e = .returned (.tuple #[tu0, .int .i64 (K : Int)]) ∧ Below w.heap.size w w' := by
  have hkb : ((K : Int) != 0) = true := by simp; omega
  replace hQ := hide hQ
  obtain ⟨w1, hw1⟩ : ∃ w1, (w.alloc (.cells #[.int .i64 ty, .int .i64 cd, .int .u32 wd, .slice A n c] 138)).alloc (tuC 0 false 0 0 false 0 0 0 0) = w1 := ⟨_, rfl⟩
  have hb1 : Below w.heap.size w w1 := hw1 ▸ ((Below.refl _ _).alloc (Nat.le_refl _) _).alloc (by simp) _
  have hz1 : w1.heap.size = w.heap.size + 1 + 1 := by rw [← hw1]; simp
  have hgm : w1.heap[w.heap.size]? = some (.cells #[.int .i64 ty, .int .i64 cd, .int .u32 wd, .slice A n c] 138 (0, 0)) := by rw [← hw1]; exact blk_old _ (by simp) (blk_new _ _ _)
  have hgr : w1.heap[w.heap.size + 1]? = some (.cells #[.int .i64 0, .bool false, .int .u64 0, .int .u64 0, .bool false, .int .u64 0, .int .u64 0, .int .i64 0, .int .i64 0] 32 (0, 0)) := by
    have := blk_new (w.alloc (.cells #[.int .i64 ty, .int .i64 cd, .int .u32 wd, .slice A n c] 138)) 32 #[.int .i64 0, .bool false, .int .u64 0, .int .u64 0, .bool false, .int .u64 0, .int .u64 0, .int .i64 0, .int .i64 0]
    have hw1' := hw1
    unfold tuC at hw1'
    rw [hw1'] at this
    simpa using this
  unfold tuC at hw1
  have hcm1 := blk_cell hgm
  have hx1 := hx.on hb1
  replace hx := hide hx
  replace hx1 := hide hx1
  replace hb1 := hide hb1
  replace hgm := hide hgm
  replace hgr := hide hgr
  replace hE := hide hE
  replace hz1 := hide hz1
  go_enter Try.func96, Try.ntmps96
  go_wp2_with fail
  refine (error_any v6 ty _).mono ?_
  rw [hE.out]
  rintro e w' ⟨rfl, rfl⟩
  clear hw1
  obtain ⟨w2, hw2⟩ : ∃ w2, w1.alloc (tuC 0 false 0 0 false 0 0 0 0) = w2 := ⟨_, rfl⟩
  have hb2 : Below w1.heap.size w1 w2 := hw2 ▸ (Below.refl _ _).alloc (Nat.le_refl _) _
  unfold tuC at hw2
  have hgt := hw2 ▸ blk_new w1 32 #[.int .i64 0, .bool false, .int .u64 0, .int .u64 0, .bool false, .int .u64 0, .int .u64 0, .int .i64 0, .int .i64 0]
  have hz2 : w2.heap.size = w1.heap.size + 1 := by rw [← hw2]; simp
  have hltm : w.heap.size < w1.heap.size := by have := hz1.out; omega
  have hltr : w.heap.size + 1 < w1.heap.size := by have := hz1.out; omega
  have hgm2 := blk_below hb2 hltm hgm.out
  have hgr2 := blk_below hb2 hltr hgr.out
  have hx2 := hx1.out.on hb2
  have hB2 := hb1.out.trans (hb2.mono (Nat.le_of_lt hltm))
  clear hcm1
  have hcm2 := blk_cell hgm2
  clear hb2
  replace hgt := hide hgt
  replace hz2 := hide hz2
  replace hgm2 := hide hgm2
  replace hgr2 := hide hgr2
  replace hx2 := hide hx2
  replace hB2 := hide hB2
  rcases v6 with _ | _
  · go_wp2_with fail
    refine (four_fail n xs K proto shi slo dhi dlo frag rest hQ.out hK A c _ hx2.out hnc hcm hnm).mono ?_
    rintro e w3 ⟨rfl, hb3⟩
    clear hw2 hcm2
    have hzz : w2.heap.size ≤ w3.heap.size := hb3.size
    have hb34 : Below w2.heap.size w2 (w3.alloc (Four.hdC 0 0 false false 0 0 0 false 0 0 false 0 0 none 0 0)) := hb3.alloc hb3.size _
    have hgr3 := blk_below hb34 (by have := hz2.out; omega) hgr2.out
    have hB3 := hB2.out.trans (hb34.mono (by have := hz2.out; omega))
    unfold Four.hdC at hgr3 hB3
    have hcg := blk_cell hgr3
    have hfg := blk_free hgr3
    clear hb3 hb34
    replace hgr3 := hide hgr3
    replace hB3 := hide hB3
    go_wp2_with fail
    refine bodyPost_ret (v := .tuple #[tu0, .int .i64 (K : Int)]) (by simp [results, Try.results96, go_sem, hcg]) rfl ⟨rfl, ?_⟩
    iterate 9 refine Below.setCell ?_ (by simp) _
    exact hB3.out
  · go_wp2_with fail
    refine (six_fail n xs K proto shi slo dhi dlo frag rest hQ.out hK A c _ hx2.out hnc hcm hnm).mono ?_
    rintro e w3 ⟨rfl, hb3⟩
    clear hw2 hcm2
    have hzz : w2.heap.size ≤ w3.heap.size := hb3.size
    have hb34 : Below w2.heap.size w2 (w3.alloc (Six.hdC 0 0 0 false 0 0 false 0 0 none 0 0 0)) := hb3.alloc hb3.size _
    have hgr3 := blk_below hb34 (by have := hz2.out; omega) hgr2.out
    have hB3 := hB2.out.trans (hb34.mono (by have := hz2.out; omega))
    unfold Six.hdC at hgr3 hB3
    have hcg := blk_cell hgr3
    have hfg := blk_free hgr3
    clear hb3 hb34
    replace hgr3 := hide hgr3
    replace hB3 := hide hB3
    go_wp2_with fail
    refine bodyPost_ret (v := .tuple #[tu0, .int .i64 (K : Int)]) (by simp [results, Try.results96, go_sem, hcg]) rfl ⟨rfl, ?_⟩
    iterate 9 refine Below.setCell ?_ (by simp) _
    exact hB3.out
/-- How it ends: why there is no flow, or the flow. -/
def FlowEnd (F : Nat) (v6 : Bool) (proto shi slo dhi dlo : Nat) (rest : List UInt8) (w w' : World) (e : Ending) : Prop :=
  (F ≠ 0 → e = .returned (.tuple #[tu0, .int .i64 (F : Int)])) ∧ (F = 0 → e = .returned (.tuple #[tuV proto v6 shi slo v6 dhi dlo (beN rest 0 2 : Nat) (beN rest 2 2 : Nat), .int .i64 0])) ∧ Below w.heap.size w w'
/-- Why what is quoted is no flow; 0: it is one. -/
def flowK (frag proto len : Nat) : Nat := if 0 < frag then 21 else if proto ≠ 6 ∧ proto ≠ 17 then 14 else if len < 4 then 2 else 0
set_option maxRecDepth 4000 in
set_option maxHeartbeats 8000000 in
theorem quoted_ok (v6 : Bool) (ty cd wd : Int) (A : Option Addr) (n c : Nat) (xs : List UInt8) (w : World) (hx : IsB w w.heap.size A n xs) (hnc : n ≤ c) (hcm : c ≤ maxLen) (hnm : n ≤ 1099511627776) (hE : errB v6 ty = true)
    (proto shi slo dhi dlo frag : Nat) (rest : List UInt8) (hQ : QIs v6 n xs 0 proto shi slo dhi dlo frag rest) (hrl : rest.length ≤ maxLen) (F : Nat) (hF : flowK frag proto rest.length = F) :
    Calls Try.prog 96 #[.bool v6, .agg #[.int .i64 ty, .int .i64 cd, .int .u32 wd, .slice A n c]] w fun e w' => FlowEnd F v6 proto shi slo dhi dlo rest w w' e := by
  replace hQ := hide hQ
  replace hF := hide hF
  obtain ⟨w1, hw1⟩ : ∃ w1, (w.alloc (.cells #[.int .i64 ty, .int .i64 cd, .int .u32 wd, .slice A n c] 138)).alloc (tuC 0 false 0 0 false 0 0 0 0) = w1 := ⟨_, rfl⟩
  have hb1 : Below w.heap.size w w1 := hw1 ▸ ((Below.refl _ _).alloc (Nat.le_refl _) _).alloc (by simp) _
  have hz1 : w1.heap.size = w.heap.size + 1 + 1 := by rw [← hw1]; simp
  have hgm : w1.heap[w.heap.size]? = some (.cells #[.int .i64 ty, .int .i64 cd, .int .u32 wd, .slice A n c] 138 (0, 0)) := by rw [← hw1]; exact blk_old _ (by simp) (blk_new _ _ _)
  have hgr : w1.heap[w.heap.size + 1]? = some (.cells #[.int .i64 0, .bool false, .int .u64 0, .int .u64 0, .bool false, .int .u64 0, .int .u64 0, .int .i64 0, .int .i64 0] 32 (0, 0)) := by
    have := blk_new (w.alloc (.cells #[.int .i64 ty, .int .i64 cd, .int .u32 wd, .slice A n c] 138)) 32 #[.int .i64 0, .bool false, .int .u64 0, .int .u64 0, .bool false, .int .u64 0, .int .u64 0, .int .i64 0, .int .i64 0]
    have hw1' := hw1
    unfold tuC at hw1'
    rw [hw1'] at this
    simpa using this
  unfold tuC at hw1
  have hcm1 := blk_cell hgm
  have hx1 := hx.on hb1
  replace hx := hide hx
  replace hx1 := hide hx1
  replace hb1 := hide hb1
  replace hgm := hide hgm
  replace hgr := hide hgr
  replace hE := hide hE
  replace hz1 := hide hz1
  go_enter Try.func96, Try.ntmps96
  go_wp2_with fail
  refine (error_any v6 ty _).mono ?_
  rw [hE.out]
  rintro e w' ⟨rfl, rfl⟩
  clear hw1
  obtain ⟨w2, hw2⟩ : ∃ w2, w1.alloc (tuC 0 false 0 0 false 0 0 0 0) = w2 := ⟨_, rfl⟩
  have hb2 : Below w1.heap.size w1 w2 := hw2 ▸ (Below.refl _ _).alloc (Nat.le_refl _) _
  unfold tuC at hw2
  have hgt := hw2 ▸ blk_new w1 32 #[.int .i64 0, .bool false, .int .u64 0, .int .u64 0, .bool false, .int .u64 0, .int .u64 0, .int .i64 0, .int .i64 0]
  have hz2 : w2.heap.size = w1.heap.size + 1 := by rw [← hw2]; simp
  have hltm : w.heap.size < w1.heap.size := by have := hz1.out; omega
  have hltr : w.heap.size + 1 < w1.heap.size := by have := hz1.out; omega
  have hgm2 := blk_below hb2 hltm hgm.out
  have hgr2 := blk_below hb2 hltr hgr.out
  have hx2 := hx1.out.on hb2
  have hB2 := hb1.out.trans (hb2.mono (Nat.le_of_lt hltm))
  clear hcm1
  have hcm2 := blk_cell hgm2
  clear hb2
  replace hgt := hide hgt
  replace hz2 := hide hz2
  replace hgm2 := hide hgm2
  replace hgr2 := hide hgr2
  replace hx2 := hide hx2
  replace hB2 := hide hB2
  go_upto_if 21 with fail
  go_cut [7, 8] (fun s7 s8 wx => ∃ (Ar : Option Addr) (cr : Nat), s7 = .slice Ar rest.length cr ∧ s8 = .int .i64 (frag : Int) ∧ OwnB wx w2.heap.size (.slice Ar rest.length cr) rest ∧ wx.heap[w1.heap.size]? = some (.cells #[.int .i64 proto, .bool v6, .int .u64 shi, .int .u64 slo, .bool v6, .int .u64 dhi, .int .u64 dlo, .int .i64 0, .int .i64 0] 32 (0, 0)) ∧ Below w1.heap.size w2 wx)
  case first =>
    rcases v6 with _ | _
    · go_wp2_with fail
      refine (four_ok n xs proto shi slo dhi dlo frag rest hQ.out A c _ hx2.out hnc hcm hnm).mono ?_
      rintro e w3 ⟨tos, id, df, mf, ttl, A1, n1, c1, A2, c2, rfl, hr, hb3⟩
      clear hw2 hcm2
      obtain ⟨w4, hw4⟩ : ∃ w4, w3.alloc (Four.hdC tos id df mf frag ttl proto false shi slo false dhi dlo A1 n1 c1) = w4 := ⟨_, rfl⟩
      have hb34 : Below w3.heap.size w3 w4 := hw4 ▸ (Below.refl _ _).alloc (Nat.le_refl _) _
      have hlt4 : w3.heap.size < w4.heap.size := by rw [← hw4]; simp
      have hb24 : Below w2.heap.size w2 w4 := hb3.trans (hb34.mono hb3.size)
      unfold Four.hdC at hw4
      have hgh := hw4 ▸ blk_new w3 106 #[.int .i64 tos, .int .i64 id, .bool df, .bool mf, .int .i64 frag, .int .i64 ttl, .int .i64 proto, .bool false, .int .u64 shi, .int .u64 slo, .bool false, .int .u64 dhi, .int .u64 dlo, .slice A1 n1 c1]
      have hr4 := hr.below hb34
      have hlt12 : w1.heap.size < w2.heap.size := by have := hz2.out; omega
      have hgt4 := blk_below hb24 hlt12 hgt.out
      have hzz3 : w1.heap.size + 1 ≤ w3.heap.size := by have := hb3.size; have := hz2.out; omega
      clear hr hb3 hb34
      replace hgh := hide hgh
      replace hr4 := hide hr4
      replace hgt4 := hide hgt4
      replace hb24 := hide hb24
      go_wp2_with fail
      clear hw4
      have hgt4' := hgt4.out
      obtain ⟨wd, hwd⟩ : ∃ wd, w4.drew = wd := ⟨_, rfl⟩
      have hb4d : Below w4.heap.size w4 wd := hwd ▸ (Below.refl _ _).drew
      have hgne : w3.heap.size ≠ w1.heap.size := by have := hzz3; omega
      have hghd := blk_below hb4d hlt4 hgh.out
      have hltd : w3.heap.size < wd.heap.size := Nat.lt_of_lt_of_le hlt4 hb4d.size
      have hcl : ∀ (l : Grown w1.heap.size wd) (o : Nat), l.w.cell? ⟨w3.heap.size, o, none⟩ = _ := fun l o => blk_cell (grown_blk l.hg hltd hgne hghd) o
      refine wp_region_F (GrownR w1.heap.size) (by as_aux_lemma => kernel_rfl) ?_
      rw [hwd]
      clear hwd
      refine wpG_seg w1.heap.size 0 10 (fuel := 3) (by as_aux_lemma => kernel_rfl) (fun d _ _ _ _ h => by cases d <;> exact h) (by as_aux_lemma => kernel_rfl) (by as_aux_lemma => kernel_rfl) ?_
      simp only [List.drop_zero, List.take_succ_cons, List.take_zero]
      iterate 10 (refine wpQG_step (fun K hK => ?_); go_simp; refine hK _ ?_; clear hK K)
      refine wpQF_nil ?_
      clear hcl
      have hgt5 := blk_below hb4d (Nat.lt_of_lt_of_le hlt12 hb24.out.size) hgt4'
      have hr5 := hr4.out.below hb4d
      have hb25 := hb24.out.trans (hb4d.mono hb24.out.size)
      obtain ⟨w6, e6, hg6, hgr6⟩ := set9 hgt5 (.int .i64 proto) (.bool false) (.int .u64 shi) (.int .u64 slo) (.bool false) (.int .u64 dhi) (.int .u64 dlo) (.int .i64 0) (.int .i64 0)
      have hcg5 := blk_cell hgt5
      have hfg5 := blk_free hgt5
      have hr6 := OwnB.kept hr5 hgr6 (own_not hr5 hlt12)
      have hb26 := (hb25.mono (Nat.le_of_lt hlt12)).trans (grown_below hgr6 (Nat.le_trans (Nat.le_of_lt hlt12) hb25.size) (Nat.le_refl _))
      clear hr5 hb25 hgt5
      replace hr6 := hide hr6
      replace hb26 := hide hb26
      replace hg6 := hide hg6
      replace hgr6 := hide hgr6
      refine wpF_step 10 (fuel := 2) rfl (by as_aux_lemma => kernel_rfl) (fun K hK => ?_)
      go_simp
      refine hK _ _ hgr6.out ?_
      clear hK K e6 hcg5 hfg5
      refine wpF_step 11 (fuel := 1) rfl (by as_aux_lemma => kernel_rfl) (fun K hK => ?_)
      go_simp
      refine hK _ _ (grown_refl _ _) ?_
      clear hK K
      refine wpF_step 12 (fuel := 0) rfl (by as_aux_lemma => kernel_rfl) (fun K hK => ?_)
      go_simp
      refine hK _ _ (grown_refl _ _) ?_
      clear hK K
      refine wpF_done (by as_aux_lemma => kernel_rfl) ?_ 0
      go_wp2_with fail
      go_meet
      exact ⟨A2, c2, rfl, rfl, hr6.out, hg6.out, hb26.out⟩
    · go_wp2_with fail
      refine (six_ok n xs proto shi slo dhi dlo frag rest hQ.out A c _ hx2.out hnc hcm hnm).mono ?_
      rintro e w3 ⟨cls, lab, hop, X, xc, es, A2, c2, rfl, hX, hfr, hr, hb3⟩
      clear hw2 hcm2
      obtain ⟨w4, hw4⟩ : ∃ w4, w3.alloc (Six.hdC cls lab hop true shi slo true dhi dlo X es.length xc proto) = w4 := ⟨_, rfl⟩
      have hb34 : Below w3.heap.size w3 w4 := hw4 ▸ (Below.refl _ _).alloc (Nat.le_refl _) _
      have hlt4 : w3.heap.size < w4.heap.size := by rw [← hw4]; simp
      have hb24 : Below w2.heap.size w2 w4 := hb3.trans (hb34.mono hb3.size)
      unfold Six.hdC at hw4
      have hgh := hw4 ▸ blk_new w3 98 #[.int .i64 cls, .int .i64 lab, .int .i64 hop, .bool true, .int .u64 shi, .int .u64 slo, .bool true, .int .u64 dhi, .int .u64 dlo, .slice X es.length xc, .int .i64 proto]
      have hr4 := hr.below hb34
      have hX4 := hX.below hb34
      have hlt12 : w1.heap.size < w2.heap.size := by have := hz2.out; omega
      have hgt4 := blk_below hb24 hlt12 hgt.out
      have hzz3 : w1.heap.size + 1 ≤ w3.heap.size := by have := hb3.size; have := hz2.out; omega
      clear hr hb3 hb34 hX
      replace hgh := hide hgh
      replace hr4 := hide hr4
      replace hX4 := hide hX4
      replace hgt4 := hide hgt4
      replace hb24 := hide hb24
      replace hfr := hide hfr
      go_wp2_with fail
      clear hw4
      have hgt4' := hgt4.out
      obtain ⟨wd, hwd⟩ : ∃ wd, w4.drew = wd := ⟨_, rfl⟩
      have hb4d : Below w4.heap.size w4 wd := hwd ▸ (Below.refl _ _).drew
      have hgne : w3.heap.size ≠ w1.heap.size := by have := hzz3; omega
      have hghd := blk_below hb4d hlt4 hgh.out
      have hltd : w3.heap.size < wd.heap.size := Nat.lt_of_lt_of_le hlt4 hb4d.size
      have hcl : ∀ (l : Grown w1.heap.size wd) (o : Nat), l.w.cell? ⟨w3.heap.size, o, none⟩ = _ := fun l o => blk_cell (grown_blk l.hg hltd hgne hghd) o
      refine wp_region_F (GrownR w1.heap.size) (by as_aux_lemma => kernel_rfl) ?_
      rw [hwd]
      clear hwd
      refine wpG_seg w1.heap.size 0 9 (fuel := 4) (by as_aux_lemma => kernel_rfl) (fun d _ _ _ _ h => by cases d <;> exact h) (by as_aux_lemma => kernel_rfl) (by as_aux_lemma => kernel_rfl) ?_
      simp only [List.drop_zero, List.take_succ_cons, List.take_zero]
      iterate 9 (refine wpQG_step (fun K hK => ?_); go_simp; refine hK _ ?_; clear hK K)
      refine wpQF_nil ?_
      clear hcl
      refine wpF_step 9 (fuel := 3) rfl (by as_aux_lemma => kernel_rfl) (fun K hK => ?_)
      go_simp
      go_at_call 65
      have hXd := (hX4.out.below hb4d).isX
      refine (Six.frag_any cls lab hop true shi slo true dhi dlo X es.length xc proto es _ hXd.1 (by omega)).mono ?_
      rw [hfr.out]
      rintro e w5 ⟨rfl, hb5⟩
      refine hK _ _ (grown_of_below hb5) ?_
      clear hK K hXd
      have hb45 := hb4d.trans (hb5.mono hb4d.size)
      have hgt5 := blk_below hb45 (Nat.lt_of_lt_of_le hlt12 hb24.out.size) hgt4'
      have hr5 := hr4.out.below hb45
      have hb25 := hb24.out.trans (hb45.mono hb24.out.size)
      clear hb5 hb45
      obtain ⟨w6, e6, hg6, hgr6⟩ := set9 hgt5 (.int .i64 proto) (.bool true) (.int .u64 shi) (.int .u64 slo) (.bool true) (.int .u64 dhi) (.int .u64 dlo) (.int .i64 0) (.int .i64 0)
      have hcg5 := blk_cell hgt5
      have hfg5 := blk_free hgt5
      have hr6 := OwnB.kept hr5 hgr6 (own_not hr5 hlt12)
      have hb26 := (hb25.mono (Nat.le_of_lt hlt12)).trans (grown_below hgr6 (Nat.le_trans (Nat.le_of_lt hlt12) hb25.size) (Nat.le_refl _))
      clear hr5 hb25 hgt5
      replace hr6 := hide hr6
      replace hb26 := hide hb26
      replace hg6 := hide hg6
      replace hgr6 := hide hgr6
      refine wpF_step 10 (fuel := 2) rfl (by as_aux_lemma => kernel_rfl) (fun K hK => ?_)
      go_simp
      refine hK _ _ hgr6.out ?_
      clear hK K e6 hcg5 hfg5
      refine wpF_step 11 (fuel := 1) rfl (by as_aux_lemma => kernel_rfl) (fun K hK => ?_)
      go_simp
      refine hK _ _ (grown_refl _ _) ?_
      clear hK K
      refine wpF_step 12 (fuel := 0) rfl (by as_aux_lemma => kernel_rfl) (fun K hK => ?_)
      go_simp
      refine hK _ _ (grown_refl _ _) ?_
      clear hK K
      refine wpF_done (by as_aux_lemma => kernel_rfl) ?_ 0
      go_wp2_with fail
      go_meet
      exact ⟨A2, c2, rfl, rfl, hr6.out, hg6.out, hb26.out⟩
  case rest =>
  obtain ⟨Ar, cr, rfl, rfl, hr, hgt6, hb6⟩ := hcut
  have hlt12 : w1.heap.size < w2.heap.size := by have := hz2.out; omega
  have hgrc := blk_below hb6 hltr hgr2.out
  have hBc := hB2.out.trans (hb6.mono (Nat.le_of_lt hltm))
  have hcg := blk_cell hgrc
  have hfg := blk_free hgrc
  have hct := blk_cell hgt6
  have hft := blk_free hgt6
  have hzc : w2.heap.size ≤ wc.heap.size := hb6.size
  clear hw2 hcm2
  replace hr := hide hr
  replace hgrc := hide hgrc
  replace hBc := hide hBc
  replace hgt6 := hide hgt6
  replace hb6 := hide hb6
  have hF' := hF.out
  unfold flowK at hF'
  by_cases h1 : 0 < frag
  · rw [if_pos h1] at hF'
    subst hF'
    have t1 : (0 : Int) < (frag : Int) := by omega
    go_wp2_with fail
    refine bodyPost_ret (v := .tuple #[tu0, .int .i64 21]) (by simp [results, Try.results96, go_sem, hcg]) rfl ⟨fun _ => rfl, (fun h => by cases h), ?_⟩
    iterate 9 refine Below.setCell ?_ (by simp) _
    exact hBc.out
  rw [if_neg h1] at hF'
  have t1 : ¬ (0 : Int) < (frag : Int) := by omega
  by_cases h2 : proto ≠ 6 ∧ proto ≠ 17
  · rw [if_pos h2] at hF'
    subst hF'
    have t2 : ((proto : Int) != 6) = true := by simp; omega
    have t3 : ((proto : Int) != 17) = true := by simp; omega
    clear h2
    go_wp2_with fail
    refine bodyPost_ret (v := .tuple #[tu0, .int .i64 14]) (by simp [results, Try.results96, go_sem, hcg]) rfl ⟨fun _ => rfl, (fun h => by cases h), ?_⟩
    iterate 9 refine Below.setCell ?_ (by simp) _
    exact hBc.out
  rw [if_neg h2] at hF'
  by_cases h3 : rest.length < 4
  · rw [if_pos h3] at hF'
    subst hF'
    have t4 : (rest.length : Int) < 4 := by omega
    by_cases h6 : proto = 6
    · have t2 : ((proto : Int) != 6) = false := by simp; omega
      clear h2
      replace h6 := hide h6
      go_wp2_with fail
      refine bodyPost_ret (v := .tuple #[tu0, .int .i64 2]) (by simp [results, Try.results96, go_sem, hcg]) rfl ⟨fun _ => rfl, (fun h => by cases h), ?_⟩
      iterate 9 refine Below.setCell ?_ (by simp) _
      exact hBc.out
    · have t2 : ((proto : Int) != 6) = true := by simp; omega
      have t3 : ((proto : Int) != 17) = false := by simp; omega
      clear h2
      go_wp2_with fail
      refine bodyPost_ret (v := .tuple #[tu0, .int .i64 2]) (by simp [results, Try.results96, go_sem, hcg]) rfl ⟨fun _ => rfl, (fun h => by cases h), ?_⟩
      iterate 9 refine Below.setCell ?_ (by simp) _
      exact hBc.out
  rw [if_neg h3] at hF'
  subst hF'
  have t4 : ¬ (rest.length : Int) < 4 := by omega
  have hi := hr.out.reads.2.2.2
  obtain ⟨p1, hp1⟩ : ∃ p1, beN rest 0 2 = p1 := ⟨_, rfl⟩
  obtain ⟨p2, hp2⟩ : ∃ p2, beN rest 2 2 = p2 := ⟨_, rfl⟩
  have hp1l : p1 < 65536 := by rw [← hp1]; exact beN_lt rest 0 2
  have hp2l : p2 < 65536 := by rw [← hp2]; exact beN_lt rest 2 2
  obtain ⟨w7, e7, hg7, hgr7⟩ : ∃ w7, (wc.setCell ⟨w1.heap.size, 7, none⟩ (.int .i64 (p1 : Int))).setCell ⟨w1.heap.size, 8, none⟩ (.int .i64 (p2 : Int)) = w7 ∧ w7.heap[w1.heap.size]? = some (.cells #[.int .i64 proto, .bool v6, .int .u64 shi, .int .u64 slo, .bool v6, .int .u64 dhi, .int .u64 dlo, .int .i64 p1, .int .i64 p2] 32 (0, 0)) ∧ wc.grownBy w7 (some w1.heap.size) := by
    refine ⟨_, rfl, ?_, ?_⟩
    · simpa using blk_set (blk_set hgt6.out 7 (.int .i64 p1)) 8 (.int .i64 p2)
    · iterate 2 refine grown_set ?_ rfl _
      exact grown_refl _ _
  have hgr7' := grown_blk hgr7 (Nat.lt_of_lt_of_le (Nat.lt_trans hltr hlt12) hzc) (by omega) hgrc.out
  have hB7 := hBc.out.trans (grown_below hgr7 hBc.out.size (Nat.le_of_lt hltm))
  have hcg7 := blk_cell hgr7'
  have hfg7 := blk_free hgr7'
  have hct7 := blk_cell hg7
  obtain ⟨w8, e8, hg8, hgr8⟩ := set9 hgr7' (.int .i64 proto) (.bool v6) (.int .u64 shi) (.int .u64 slo) (.bool v6) (.int .u64 dhi) (.int .u64 dlo) (.int .i64 p1) (.int .i64 p2)
  have hB8 := hB7.trans (grown_below hgr8 hB7.size (by omega))
  have hcg8 := blk_cell hg8
  clear hgr7 hgr8
  replace hi := hide hi
  replace hp1 := hide hp1
  replace hp2 := hide hp2
  replace hg7 := hide hg7
  replace hgr7' := hide hgr7'
  replace hg8 := hide hg8
  replace hB7 := hide hB7
  replace hB8 := hide hB8
  by_cases h6 : proto = 6
  · have t2 : ((proto : Int) != 6) = false := by simp; omega
    replace h6 := hide h6
    clear h2
    go_wp2_with fail
    refine (Octet.at_lit _ _ 0 2 rfl rfl _ _ _ rest _ hi.out hrl (by omega) (by omega)).mono ?_
    rintro e w' ⟨rfl, rfl⟩
    rw [hp1.out]
    go_wp2_with fail
    refine (Octet.at_lit _ _ 2 2 rfl rfl _ _ _ rest _ hi.out hrl (by omega) (by omega)).mono ?_
    rintro e w' ⟨rfl, rfl⟩
    rw [hp2.out]
    go_wp2_with fail
    exact bodyPost_ret (v := .tuple #[tuV proto v6 shi slo v6 dhi dlo p1 p2, .int .i64 0]) (by simp [results, Try.results96, go_sem, hcg8]) rfl ⟨fun h => absurd rfl h, fun _ => by rw [hp1.out, hp2.out], hB8.out⟩
  · have t2 : ((proto : Int) != 6) = true := by simp; omega
    have t3 : ((proto : Int) != 17) = false := by simp; omega
    clear h2
    go_wp2_with fail
    refine (Octet.at_lit _ _ 0 2 rfl rfl _ _ _ rest _ hi.out hrl (by omega) (by omega)).mono ?_
    rintro e w' ⟨rfl, rfl⟩
    rw [hp1.out]
    go_wp2_with fail
    refine (Octet.at_lit _ _ 2 2 rfl rfl _ _ _ rest _ hi.out hrl (by omega) (by omega)).mono ?_
    rintro e w' ⟨rfl, rfl⟩
    rw [hp2.out]
    go_wp2_with fail
    exact bodyPost_ret (v := .tuple #[tuV proto v6 shi slo v6 dhi dlo p1 p2, .int .i64 0]) (by simp [results, Try.results96, go_sem, hcg8]) rfl ⟨fun h => absurd rfl h, fun _ => by rw [hp1.out, hp2.out], hB8.out⟩
end Icmp
end Go.Proofs.Ytfmmmjaficbchaa
/- What icmp.Parse and icmp.Quoted make of bytes, wherever they lie: the same; icmp.Back by contract. Conditions: slices of bytes that read as lists, sizes below 2^40. -/
namespace Go.Proofs.Ytfmmmjaficbchaa
open Go.RowKit Go.ChangeShapes Go.WideShapes Go.ChangeAt Go.Deep
namespace Icmp
def ParseIs (xs ps : List UInt8) (K : Nat) (ty cd wd : Int) (ds : List UInt8) : Prop :=
  ∀ (A P : Option Addr) (c d : Nat) (W : World), IsB W W.heap.size A xs.length xs → IsB W W.heap.size P ps.length ps → xs.length ≤ c → c ≤ maxLen → Calls Try.prog 95 #[.slice A xs.length c, .slice P ps.length d] W fun e w' => ∃ A' c',
    e = .returned (.tuple #[.agg #[.int .i64 ty, .int .i64 cd, .int .u32 wd, .slice A' ds.length c'], .int .i64 (K : Int)]) ∧ IsB w' w'.heap.size A' ds.length ds ∧ ds.length ≤ c' ∧ c' ≤ maxLen ∧ Below W.heap.size W w'
theorem parse_is (xs ps : List UInt8) (hn : xs.length ≤ 1099511627776) (hm : ps.length ≤ maxLen) : ∃ K ty cd wd ds, K ≤ 20 ∧ ds.length ≤ xs.length ∧ ParseIs xs ps K ty cd wd ds := by
  by_cases h8 : xs.length < 8
  · refine ⟨2, 0, 0, 0, [], by omega, by simp, fun A P c d W hx hp hc hcm => ?_⟩
    refine (parse_short A P xs.length c ps.length d W h8).mono ?_
    rintro e w' ⟨rfl, hb⟩
    exact ⟨none, 0, rfl, IsB.nil _ _ _, Nat.le_refl _, by unfold maxLen; omega, hb⟩
  by_cases hs : Sum.ones (Sum.tot false (ps ++ xs)) = 65535
  · refine ⟨0, ((xs.getD 0 0).toNat : Nat), ((xs.getD 1 0).toNat : Nat), (beN xs 4 4 : Nat), xs.drop 8, by omega, by rw [List.length_drop]; omega, fun A P c d W hx hp hc hcm => ?_⟩
    refine (parse_ok A P xs.length c ps.length d xs ps W hx hp (by omega) hc hn hm hs).mono ?_
    rintro e w' ⟨A', m', c', rfl, hi, h1, h2, hb⟩
    obtain rfl : (xs.drop 8).length = m' := hi.1
    exact ⟨A', c', rfl, hi, h1, h2, hb⟩
  · refine ⟨13, 0, 0, 0, [], by omega, by simp, fun A P c d W hx hp hc hcm => ?_⟩
    refine (parse_sum A P xs.length c ps.length d xs ps W hx hp (by omega) (by unfold maxLen; omega) hm hs).mono ?_
    rintro e w' ⟨rfl, hb⟩
    exact ⟨none, 0, rfl, IsB.nil _ _ _, Nat.le_refl _, by unfold maxLen; omega, hb⟩
theorem chain_len : ∀ (f next : Nat) (rs : List UInt8) (acc : List (Int × List UInt8)) (r : List (Int × List UInt8) × Nat × List UInt8), Six.chainF f next rs acc = some r → r.2.2.length ≤ rs.length
  | 0, _, _, _, _, h => by simp [Six.chainF] at h
  | f + 1, next, rs, acc, r, h => by
    unfold Six.chainF at h
    split at h
    · cases h; exact Nat.le_refl _
    · split at h
      · cases h
      · split at h
        · cases h
        · split at h
          · split at h
            · cases h
            · cases h
              simp
          · have := chain_len f _ _ _ _ h
            rw [List.length_drop] at this
            omega
def QuotedIs (v6 : Bool) (ty : Int) (ds : List UInt8) (K : Nat) (pr : Int) (sv : Bool) (sh sl : Int) (dv : Bool) (dh dl sp dp : Int) : Prop :=
  ∀ (cd wd : Int) (A : Option Addr) (c : Nat) (W : World), IsB W W.heap.size A ds.length ds → ds.length ≤ c → c ≤ maxLen → Calls Try.prog 96 #[.bool v6, .agg #[.int .i64 ty, .int .i64 cd, .int .u32 wd, .slice A ds.length c]] W fun e w' =>
    e = .returned (.tuple #[tuV pr sv sh sl dv dh dl sp dp, .int .i64 (K : Int)]) ∧ Below W.heap.size W w'
theorem quoted_is (v6 : Bool) (ty : Int) (ds : List UInt8) (hn : ds.length ≤ 1099511627776) : ∃ K pr sv sh sl dv dh dl sp dp, QuotedIs v6 ty ds K pr sv sh sl dv dh dl sp dp := by
  rcases hE : errB v6 ty with _ | _
  · exact ⟨24, 0, false, 0, 0, false, 0, 0, 0, 0, fun cd wd A c W hx hc hcm => quoted_no v6 ty cd wd A ds.length c W hE⟩
  obtain ⟨K, proto, shi, slo, dhi, dlo, frag, rest, hQ⟩ := qIs_some v6 ds.length ds
  by_cases hK : K = 0
  · subst hK
    have hrl : rest.length ≤ maxLen := by
      have h1 : rest.length ≤ ds.length := by
        unfold QIs at hQ
        split at hQ
        · obtain ⟨acc, hR, _⟩ := hQ.2 rfl
          have h2 := chain_len _ _ _ _ _ hR
          simp only [List.length_drop] at h2
          omega
        · obtain ⟨_, _, _, _, _, _, rfl⟩ := hQ.2 rfl
          rw [List.length_drop]
          omega
      unfold maxLen
      omega
    obtain ⟨F, hF⟩ : ∃ F, flowK frag proto rest.length = F := ⟨_, rfl⟩
    by_cases hF0 : F = 0
    · refine ⟨0, (proto : Int), v6, (shi : Int), (slo : Int), v6, (dhi : Int), (dlo : Int), (beN rest 0 2 : Nat), (beN rest 2 2 : Nat), fun cd wd A c W hx hc hcm => ?_⟩
      refine (quoted_ok v6 ty cd wd A ds.length c ds W hx hc hcm hn hE proto shi slo dhi dlo frag rest hQ hrl F hF).mono ?_
      rintro e w' ⟨_, h2, hb⟩
      exact ⟨h2 hF0, hb⟩
    · refine ⟨F, 0, false, 0, 0, false, 0, 0, 0, 0, fun cd wd A c W hx hc hcm => ?_⟩
      refine (quoted_ok v6 ty cd wd A ds.length c ds W hx hc hcm hn hE proto shi slo dhi dlo frag rest hQ hrl F hF).mono ?_
      rintro e w' ⟨h1, _, hb⟩
      exact ⟨h1 hF0, hb⟩
  · exact ⟨K, 0, false, 0, 0, false, 0, 0, 0, 0, fun cd wd A c W hx hc hcm => quoted_fail v6 ty cd wd A ds.length c ds W hx hc hcm hn hE K proto shi slo dhi dlo frag rest hQ hK⟩
set_option maxHeartbeats 400000 in
theorem back_of (pr sp dp : Int) (sv dv : Bool) (sh sl dh dl : Int) (w : World) :
    Calls Try.prog 97 #[tuV pr sv sh sl dv dh dl sp dp] w fun e w' => e = .returned (tuV pr dv dh dl sv sh sl dp sp) ∧ Below w.heap.size w w' := by
  go_enter Try.func97, Try.ntmps97
  go_wp2
  refine bodyPost_ret (v := tuV pr dv dh dl sv sh sl dp sp) (by simp [results, Try.results97, go_sem]) rfl ⟨rfl, ?_⟩
  exact ((Below.refl _ _).alloc (Nat.le_refl _) _).alloc (by simp) _
end Icmp
end Go.Proofs.Ytfmmmjaficbchaa
