/- pfx: the law's has. Conditions: numbers of 64 bits, an address that may be. -/
import Derived.Test.YtccmbnaakdffaaaDoorQPfxSorts13
import Derived.Test.YtccmbnaakdffaaaDoorQPfxSorts8
namespace Go.Proofs.YtccmbnaakdffaaaDoor
open Go.RowKit Go.ChangeShapes Go.WideShapes Go.ChangeAt Go.Deep
namespace Addr05
set_option maxRecDepth 20000 in
set_option maxHeartbeats 8000000 in
theorem phas_any (p : Adr) (hop : p.ok) (i : Int) (a : Adr) (hoa : a.ok) (har : a.right) (w : World) :
    Calls Tryd.prog 34 #[.agg (pArr p i), .agg #[.bool a.v6, .int .u64 (a.hi : Int), .int .u64 (a.lo : Int)]] w fun e w' => e = .returned (.bool (hasP p i a)) ∧ Below w.heap.size w w' := by
  have hn1 := has_no1 p i a
  have hn2 := has_no2 p i a
  have hR := fun w => pright_any p hop i w
  have hBp := bits_any p hop
  have hBa := bits_any a hoa
  have hblp := p.bits_length
  have hbla := a.bits_length
  have hbgp := p.bits_get
  have hbga := a.bits_get
  have hwp := p.w_le
  have hwp0 : 0 < p.w := by unfold Adr.w; split <;> omega
  have hwa : (a.v6 == p.v6) = true → a.w = p.w := fun h => by unfold Adr.w; rw [show a.v6 = p.v6 by simpa using h]
  have hbits : ∀ k : Nat, i = (k : Int) → rightP p i = true → (a.v6 == p.v6) = true → (hasP p i a = true ↔ ∀ j, j < k → p.bit j = a.bit j) := fun k h1 h2 h3 => by
    subst h1
    exact has_bits p k a hop hoa har h2 h3
  have hpos : rightP p i = true → ∃ k : Nat, i = (k : Int) ∧ k ≤ p.w := fun h => by
    have h0 : 0 ≤ i := by
      rcases Int.lt_or_le i 0 with h1 | h1
      · rw [right_no2 p i h1] at h; cases h
      · exact h1
    obtain ⟨k, rfl⟩ : ∃ k : Nat, i = (k : Int) := ⟨i.toNat, by omega⟩
    exact ⟨k, rfl, (rightP_facts p k h).2.1⟩
  obtain ⟨HP, hHP⟩ : ∃ x, hasP p i a = x := ⟨_, rfl⟩
  rw [hHP] at hn1 hn2 hbits ⊢
  obtain ⟨RP, hRP⟩ : ∃ x, rightP p i = x := ⟨_, rfl⟩
  rw [hRP] at hn1 hR hbits hpos
  obtain ⟨BP, hBP⟩ : ∃ x, p.bits = x := ⟨_, rfl⟩
  obtain ⟨BA, hBA⟩ : ∃ x, a.bits = x := ⟨_, rfl⟩
  rw [hBP] at hBp hblp hbgp
  rw [hBA] at hBa hbla hbga
  obtain ⟨fp, hfp⟩ : ∃ x, p.bit = x := ⟨_, rfl⟩
  obtain ⟨fa, hfa⟩ : ∃ x, a.bit = x := ⟨_, rfl⟩
  rw [hfp] at hbgp hbits
  rw [hfa] at hbga hbits
  obtain ⟨W, hW⟩ : ∃ x, p.w = x := ⟨_, rfl⟩
  rw [hW] at hblp hbgp hwp hwp0 hwa hpos
  obtain ⟨W2, hW2⟩ : ∃ x, a.w = x := ⟨_, rfl⟩
  rw [hW2] at hbla hbga hwa
  clear hop hoa har hHP hRP hBP hBA hfp hfa hW hW2
  unfold pArr at hR ⊢
  obtain ⟨pv, ph, pl⟩ := p
  obtain ⟨v, hi, lo⟩ := a
  dsimp only at hn1 hn2 hR hBp hBa hwa hbits ⊢
  obtain ⟨w1, hw1⟩ : ∃ w1, w.alloc (.cells #[.bool pv, .int .u64 (ph : Int), .int .u64 (pl : Int), .int .i64 i] 45) = w1 := ⟨_, rfl⟩
  have hg1 : w1.heap[w.heap.size]? = some (.cells #[.bool pv, .int .u64 (ph : Int), .int .u64 (pl : Int), .int .i64 i] 45 (0, 0)) := hw1 ▸ blk_new _ _ _
  have hz1 : w1.heap.size = w.heap.size + 1 := by rw [← hw1]; simp
  have hB1 : Below w.heap.size w w1 := hw1 ▸ (Below.refl _ _).alloc (Nat.le_refl _) _
  obtain ⟨w2, hw2⟩ : ∃ w2, w1.alloc (.cells #[.bool v, .int .u64 (hi : Int), .int .u64 (lo : Int)] 24) = w2 := ⟨_, rfl⟩
  have hg2 : w2.heap[w1.heap.size]? = some (.cells #[.bool v, .int .u64 (hi : Int), .int .u64 (lo : Int)] 24 (0, 0)) := hw2 ▸ blk_new _ _ _
  have hB2' : Below w1.heap.size w1 w2 := hw2 ▸ (Below.refl _ _).alloc (Nat.le_refl _) _
  rw [hz1] at hg2
  have hg1 := blk_below hB2' (by omega) hg1
  have hB := hB1.trans (hB2'.mono hB1.size)
  clear hB1 hB2'
  replace hB := hide hB
  replace hg1 := hide hg1
  replace hg2 := hide hg2
  replace hR := hide hR
  replace hBp := hide hBp
  replace hBa := hide hBa
  replace hbgp := hide hbgp
  replace hbga := hide hbga
  replace hbits := hide hbits
  replace hpos := hide hpos
  replace hn1 := hide hn1
  replace hn2 := hide hn2
  replace hwa := hide hwa
  have hca := blk_cell hg1.out
  go_enter Tryd.func34, Tryd.ntmps34
  go_wp2_with fail
  clear hw1 hw2 hz1
  refine (hR.out w2).mono ?_
  rintro e w3 ⟨rfl, hb3⟩
  replace hB := hide (hB.out.trans (hb3.mono hB.out.size))
  replace hg1 := hide (blk_on hb3 hg1.out)
  replace hg2 := hide (blk_on hb3 hg2.out)
  clear hb3
  clear hca hR
  cases RP
  · obtain rfl : HP = false := hn1.out rfl
    clear hn1 hn2 hbits hpos
    go_wp2_with fail
    go_ret
    exact ⟨rfl, hB.out⟩
  have hca := blk_cell hg1.out
  have hcb := blk_cell hg2.out
  by_cases h6 : v = pv
  · subst h6
    obtain ⟨k, rfl, hk⟩ := hpos.out rfl
    obtain rfl : W2 = W := hwa.out (by simp)
    have hiff := hbits.out k rfl rfl (by simp)
    clear hn1 hn2 hbits hpos hwa
    replace hiff := hide hiff
    go_upto_region 3 with fail
    clear hca hcb
    have hla := fun l : Later w3 => blk_cell (blk_on l.hb hg1.out)
    have hlb := fun l : Later w3 => blk_cell (blk_on l.hb hg2.out)
    refine wp_region_L (by as_aux_lemma => kernel_rfl) ?_
    refine wpE_seg 0 2 (fuel := 5) (by as_aux_lemma => kernel_rfl) (fun d _ _ _ _ h => by cases d <;> exact h) (by as_aux_lemma => kernel_rfl) (by as_aux_lemma => kernel_rfl) ?_
    simp only [List.drop_zero, List.take_succ_cons, List.take_zero]
    iterate 2 (refine wpQE_step (fun K hK => ?_); go_simp; refine hK _ ?_; clear hK K)
    refine wpQE_nil ?_
    refine wpE_seg 3 1 (fuel := 4) (by as_aux_lemma => kernel_rfl) (fun d _ _ _ _ h => by cases d <;> exact h) (by as_aux_lemma => kernel_rfl) (by as_aux_lemma => kernel_rfl) ?_
    simp only [List.drop_succ_cons, List.drop_zero, List.take_succ_cons, List.take_zero]
    iterate 1 (refine wpQE_step (fun K hK => ?_); go_simp; refine hK _ ?_; clear hK K)
    refine wpQE_nil ?_
    clear hla hlb
    refine wpE_step 2 (fuel := 3) rfl (by as_aux_lemma => kernel_rfl) (fun l K hK => ?_)
    go_simp
    go_at_call 31
    refine (hBp.out l.w).mono ?_
    rintro e w4 ⟨v1, rfl, ho1, hb4⟩
    obtain ⟨A1, c1, rfl, hc1, hm1, hv1⟩ := ho1.form
    refine hK _ _ hb4 ?_
    clear hK K ho1
    have hb34 := l.hb.trans (hb4.mono l.hb.size)
    clear hb4
    replace hB := hide (hB.out.trans (hb34.mono hB.out.size))
    replace hg1 := hide (blk_on hb34 hg1.out)
    replace hg2 := hide (blk_on hb34 hg2.out)
    clear hb34
    refine wpE_step 4 (fuel := 2) rfl (by as_aux_lemma => kernel_rfl) (fun l2 K hK => ?_)
    go_simp
    go_at_call 31
    refine (hBa.out l2.w).mono ?_
    rintro e w5 ⟨v2, rfl, ho2, hb5⟩
    obtain ⟨A2, c2, rfl, hc2, hm2, hv2⟩ := ho2.form
    refine hK _ _ hb5 ?_
    clear hK K ho2
    have hb45 := l2.hb.trans (hb5.mono l2.hb.size)
    clear hb5
    replace hv1 := hide hv1
    replace hB := hide (hB.out.trans (hb45.mono hB.out.size))
    replace hg1 := hide (blk_on hb45 hg1.out)
    replace hg2 := hide (blk_on hb45 hg2.out)
    replace hv1 := hide (hv1.out.on hb45)
    clear hb45
    replace hv2 := hide hv2
    refine wpE_seg 5 2 (fuel := 0) (by as_aux_lemma => kernel_rfl) (fun d _ _ _ _ h => by cases d <;> exact h) (by as_aux_lemma => kernel_rfl) (by as_aux_lemma => kernel_rfl) ?_
    simp only [List.drop_succ_cons, List.drop_zero, List.take_succ_cons, List.take_zero]
    iterate 2 (refine wpQE_step (fun K hK => ?_); go_simp; refine hK _ ?_; clear hK K)
    refine wpQE_nil ?_
    refine wpE_done (by as_aux_lemma => kernel_rfl) (fun w6 hb6 => ?_) 0
    replace hB := hide (hB.out.trans (hb6.mono hB.out.size))
    replace hg1 := hide (blk_on hb6 hg1.out)
    replace hg2 := hide (blk_on hb6 hg2.out)
    replace hv1 := hide (hv1.out.on hb6)
    replace hv2 := hide (hv2.out.on hb6)
    clear hb6
    rw [hblp] at hc1
    rw [hbla] at hc2
    have hv1' := hv1.out
    have hv2' := hv2.out
    rw [hblp] at hv1'
    rw [hbla] at hv2'
    obtain ⟨b1, o1, rfl, hlt1, hcell1⟩ := ints_ptr hv1' hwp0
    obtain ⟨b2, o2, rfl, hlt2, hcell2⟩ := ints_ptr hv2' hwp0
    clear hv1 hv2 hv1' hv2' hBp hBa
    have hcg := blk_cell hg1.out
    replace hcell1 := hide hcell1
    replace hcell2 := hide hcell2
    go_wp2_with fail
    go_loopw [7] (fun iv wr => ∃ j : Nat, j ≤ k ∧ iv = .int .i64 (j : Int) ∧ (∀ x, x < j → fp x = fa x) ∧ Below w6.heap.size w6 wr) (fun iv _ => k - (intOf iv).toNat)
    case atStart => exact ⟨0, by omega, rfl, fun x h => by omega, Below.refl _ _⟩
    case round =>
      obtain ⟨j, hj, rfl, hall, hbr⟩ := hrel
      have hgr := blk_on hbr hg1.out
      have hBr := hB.out.trans (hbr.mono hB.out.size)
      clear hcg
      have hcg := blk_cell hgr
      by_cases hjk : j < k
      · have i1 : (j : Int) < (k : Int) := by omega
        have i2 : (0 : Int) ≤ (j : Int) := by omega
        have i3 : (j : Int) < (W2 : Int) := by omega
        have e1 := hcell1.out j _ (hbgp.out j (by omega))
        have e2 := hcell2.out j _ (hbga.out j (by omega))
        obtain ⟨y1, hy1⟩ : ∃ y, fp j = y := ⟨_, rfl⟩
        obtain ⟨y2, hy2⟩ : ∃ y, fa j = y := ⟨_, rfl⟩
        rw [hy1] at e1
        rw [hy2] at e2
        have l1 := fun l : Later wr => (World.cell?_of_block (l.hb.block b1 (by have := hbr.size; omega))).trans ((World.cell?_of_block (hbr.block b1 hlt1)).trans e1)
        have l2 := fun l : Later wr => (World.cell?_of_block (l.hb.block b2 (by have := hbr.size; omega))).trans ((World.cell?_of_block (hbr.block b2 hlt2)).trans e2)
        clear e1 e2
        replace hall := hide hall
        replace hy1 := hide hy1
        replace hy2 := hide hy2
        replace hbr := hide hbr
        replace hBr := hide hBr
        replace hgr := hide hgr
        by_cases hyy : y1 = y2
        · have t3 : ((y1 : Int) != (y2 : Int)) = false := by rw [hyy]; simp
          go_upto_region 7 with fail
          clear hcg
          refine wp_region_L (by as_aux_lemma => kernel_rfl) ?_
          refine wpE_seg 0 9 (fuel := 0) (by as_aux_lemma => kernel_rfl) (fun d _ _ _ _ h => by cases d <;> exact h) (by as_aux_lemma => kernel_rfl) (by as_aux_lemma => kernel_rfl) ?_
          simp only [List.drop_zero, List.take_succ_cons, List.take_zero]
          iterate 9 (refine wpQE_step (fun K hK => ?_); go_simp; refine hK _ ?_; clear hK K)
          refine wpQE_nil ?_
          refine wpE_done (by as_aux_lemma => kernel_rfl) (fun w7 hb7 => ?_) 0
          clear l1 l2
          have hall' : ∀ x, x < j + 1 → fp x = fa x := fun x h => by
            rcases Nat.lt_or_ge x j with h1 | h1
            · exact hall.out x h1
            · obtain rfl : x = j := by omega
              rw [hy1.out, hy2.out, hyy]
          have hb7' := hbr.out.trans (hb7.mono hbr.out.size)
          clear hb7
          subst hyy
          replace hall' := hide hall'
          replace hb7' := hide hb7'
          go_wp2_with fail
          exact ⟨⟨j + 1, by omega, by first | rfl | go_num, hall'.out, hb7'.out⟩, by simp only [intOf]; omega⟩
        · have t3 : ((y1 : Int) != (y2 : Int)) = true := by rw [bne_iff_ne]; omega
          have t4 : ¬ (y1 : Int) = (y2 : Int) := by omega
          obtain rfl : HP = false := by
            cases HP
            · rfl
            · exact absurd (hiff.out.1 rfl j hjk) (by rw [hy1.out, hy2.out]; exact hyy)
          replace hyy := hide hyy
          go_upto_region 7 with fail
          clear hcg
          refine wp_region_L (by as_aux_lemma => kernel_rfl) ?_
          refine wpE_seg 0 9 (fuel := 0) (by as_aux_lemma => kernel_rfl) (fun d _ _ _ _ h => by cases d <;> exact h) (by as_aux_lemma => kernel_rfl) (by as_aux_lemma => kernel_rfl) ?_
          simp only [List.drop_zero, List.take_succ_cons, List.take_zero]
          iterate 9 (refine wpQE_step (fun K hK => ?_); go_simp; refine hK _ ?_; clear hK K)
          refine wpQE_nil ?_
          refine wpE_done (by as_aux_lemma => kernel_rfl) (fun w7 hb7 => ?_) 0
          clear l1 l2
          have hB7 := hBr.out.trans (hb7.mono hBr.out.size)
          clear hb7
          replace hB7 := hide hB7
          go_wp2_with fail
          go_ret
          exact ⟨rfl, hB7.out⟩
      · obtain rfl : j = k := by omega
        have i1 : ((j : Int) < (j : Int)) = False := by simp
        obtain rfl : HP = true := hiff.out.2 hall
        clear hj hk hgr hbr
        replace hall := hide hall
        replace hjk := hide hjk
        replace hBr := hide hBr
        go_wp2_with fail
        go_ret
        exact ⟨rfl, hBr.out⟩
  · obtain rfl : HP = false := hn2.out (by simpa using h6)
    clear hn1 hn2 hbits hpos hwa
    cases v <;> cases pv
    · exact absurd rfl h6
    · go_wp2_with fail
      go_ret
      exact ⟨rfl, hB.out⟩
    · go_wp2_with fail
      go_ret
      exact ⟨rfl, hB.out⟩
    · exact absurd rfl h6
end Addr05
end Go.Proofs.YtccmbnaakdffaaaDoor
/- pfx: a trie in memory, by the paths of its nodes. No condition. -/
namespace Go.Proofs.YtccmbnaakdffaaaDoor
open Go.RowKit Go.ChangeShapes Go.WideShapes Go.ChangeAt Go.Deep
namespace Addr05
abbrev Nodes := List Nat → Option Addr
/-- The node at place a with path p: its cells. -/
def NodeIs (w : World) (N : Nodes) (M : Keys) (p : List Nat) (a : Addr) : Prop :=
  a.spot = none ∧ ∃ cs t, w.heap[a.block]? = some (.cells cs t (0, 0)) ∧ a.off + 4 ≤ cs.size ∧
    cs[a.off]? = some (.pointer (N (p ++ [0]))) ∧ cs[a.off + 1]? = some (.pointer (N (p ++ [1]))) ∧ cs[a.off + 2]? = some (.int .i64 ((M p).getD 0)) ∧ cs[a.off + 3]? = some (.bool (M p).isSome)
structure TrieAt (w : World) (g : Nat) (N : Nodes) (M : Keys) (n : Int) : Prop where
  root : ∀ v, v < 2 → N [v] = some ⟨g, 4 * v, none⟩
  up : ∀ p b, p ≠ [] → N p = none → N (p ++ [b]) = none
  clean : ∀ p, N p = none → M p = none
  shape : ∀ p a, N p = some a → NodeIs w N M p a
  apart : ∀ p q a c, N p = some a → N q = some c → p ≠ q → a.block = c.block → a.off + 4 ≤ c.off ∨ c.off + 4 ≤ a.off
  inTrie : ∀ p a, N p = some a → a.block = g → a.off + 4 ≤ 8
  ge : ∀ p a, N p = some a → g ≤ a.block
  trie : ∃ cs, w.heap[g]? = some (.cells cs 64 (0, 0)) ∧ cs.size = 9 ∧ cs[8]? = some (.int .i64 n)
/-- Is a block one of the trie's? -/
def isNode (N : Nodes) (k : Nat) : Prop := ∃ p a, N p = some a ∧ a.block = k
theorem NodeIs.on {w w' : World} {N : Nodes} {M : Keys} {p : List Nat} {a : Addr} (h : NodeIs w N M p a) (e : w'.heap[a.block]? = w.heap[a.block]?) : NodeIs w' N M p a := by
  obtain ⟨h1, cs, t, h2, h3⟩ := h
  exact ⟨h1, cs, t, e.trans h2, h3⟩
theorem NodeIs.lt {w : World} {N : Nodes} {M : Keys} {p : List Nat} {a : Addr} (h : NodeIs w N M p a) : a.block < w.heap.size := by
  obtain ⟨-, cs, t, h2, -⟩ := h
  rcases Nat.lt_or_ge a.block w.heap.size with h | h
  · exact h
  · rw [Array.getElem?_eq_none h] at h2
    cases h2
theorem TrieAt.gLt {w : World} {g : Nat} {N : Nodes} {M : Keys} {n : Int} (h : TrieAt w g N M n) : g < w.heap.size := (h.shape _ _ (h.root 0 (by omega))).lt
theorem TrieAt.on {w w' : World} {g : Nat} {N : Nodes} {M : Keys} {n : Int} (h : TrieAt w g N M n) (hb : ∀ k, isNode N k → w'.heap[k]? = w.heap[k]?) : TrieAt w' g N M n := by
  obtain ⟨cs, h1, h2, h3⟩ := h.trie
  exact ⟨h.root, h.up, h.clean, fun p a hp => (h.shape p a hp).on (hb _ ⟨p, a, hp, rfl⟩), h.apart, h.inTrie, h.ge, cs, (hb g ⟨_, _, h.root 0 (by omega), rfl⟩).trans h1, h2, h3⟩
theorem TrieAt.below {w w' : World} {g : Nat} {N : Nodes} {M : Keys} {n : Int} (h : TrieAt w g N M n) (hb : Below w.heap.size w w') : TrieAt w' g N M n :=
  h.on fun k hk => by
    obtain ⟨p, a, hp, rfl⟩ := hk
    exact hb.block _ (h.shape p a hp).lt
theorem NodeIs.next {w : World} {N : Nodes} {M : Keys} {p : List Nat} {a : Addr} (h : NodeIs w N M p a) {b : Nat} (hb : b < 2) : w.cell? ⟨a.block, a.off + b, none⟩ = some (.pointer (N (p ++ [b]))) := by
  obtain ⟨-, cs, t, h2, -, h4, h5, -⟩ := h
  rw [blk_cell h2]
  have : b = 0 ∨ b = 1 := by omega
  rcases this with rfl | rfl
  · exact h4
  · exact h5
theorem NodeIs.val {w : World} {N : Nodes} {M : Keys} {p : List Nat} {a : Addr} (h : NodeIs w N M p a) : w.cell? ⟨a.block, a.off + 2, none⟩ = some (.int .i64 ((M p).getD 0)) ∧ w.cell? ⟨a.block, a.off + 3, none⟩ = some (.bool (M p).isSome) := by
  obtain ⟨-, cs, t, h2, -, -, -, h6, h7⟩ := h
  rw [blk_cell h2, blk_cell h2]
  exact ⟨h6, h7⟩
theorem NodeIs.free {w : World} {N : Nodes} {M : Keys} {p : List Nat} {a : Addr} (h : NodeIs w N M p a) (o : Nat) : w.frozen? ⟨a.block, o, none⟩ = false := by
  obtain ⟨-, cs, t, h2, -⟩ := h
  rw [blk_free h2]
def addN (N : Nodes) (q : List Nat) (c : Addr) : Nodes := fun r => if r = q then some c else N r
theorem snoc_inj {p q : List Nat} {b c : Nat} (h : p ++ [b] = q ++ [c]) : p = q ∧ b = c := by
  have := List.append_inj' h rfl
  exact ⟨this.1, by simpa using this.2⟩
/-- A node's cells, where one cell of another node, or of its own, is stored. -/
theorem set_at {w : World} {k o : Nat} {u : Value} {cs : Array Value} {t : TypeId} (h : w.heap[k]? = some (.cells cs t (0, 0))) :
    ∃ w', w.setCell ⟨k, o, none⟩ u = w' ∧ w'.heap[k]? = some (.cells (cs.setIfInBounds o u) t (0, 0)) ∧ w.grownBy w' (some k) := store_cell h o u
/-- A new node below an old one. -/
theorem TrieAt.grow {w : World} {g : Nat} {N : Nodes} {M : Keys} {n : Int} (h : TrieAt w g N M n) {p : List Nat} {a : Addr} (hp : N p = some a) (hp0 : p ≠ []) {b : Nat} (hb : b < 2) (hn : N (p ++ [b]) = none) {T : TypeId} :
    ∃ w', (w.alloc (.cells #[.pointer none, .pointer none, .int .i64 0, .bool false] T)).setCell ⟨a.block, a.off + b, none⟩ (.pointer (some ⟨w.heap.size, 0, none⟩)) = w' ∧
      TrieAt w' g (addN N (p ++ [b]) ⟨w.heap.size, 0, none⟩) M n ∧ KeptS w.heap.size (fun k => k = a.block) w w' ∧ w.heap.size < w'.heap.size := by
  have hsh := h.shape p a hp
  have hlt := hsh.lt
  obtain ⟨hsp, cs, t, hh, hsz, hc0, hc1, hc2, hc3⟩ := hsh
  have hh1 := blk_old (Obj.cells #[.pointer none, .pointer none, .int .i64 0, .bool false] T (0, 0)) hlt hh
  have hnew := blk_new w T #[.pointer none, .pointer none, .int .i64 0, .bool false]
  have hz1 : (w.alloc (.cells #[.pointer none, .pointer none, .int .i64 0, .bool false] T)).heap.size = w.heap.size + 1 := by simp
  have hold1 : ∀ k, k < w.heap.size → (w.alloc (.cells #[.pointer none, .pointer none, .int .i64 0, .bool false] T)).heap[k]? = w.heap[k]? := fun k hk => ((Below.refl w.heap.size w).alloc (Nat.le_refl _) _).block k hk
  have hk1 : Below w.heap.size w (w.alloc (.cells #[.pointer none, .pointer none, .int .i64 0, .bool false] T)) := (Below.refl _ _).alloc (Nat.le_refl _) _
  obtain ⟨w1, hw1⟩ : ∃ w1, w.alloc (.cells #[.pointer none, .pointer none, .int .i64 0, .bool false] T) = w1 := ⟨_, rfl⟩
  rw [hw1] at hh1 hnew hz1 hold1 hk1 ⊢
  obtain ⟨w2, e2, hh2, g2⟩ := set_at (o := a.off + b) (u := .pointer (some ⟨w.heap.size, 0, none⟩)) hh1
  have hsz2 := g2.size
  have hold : ∀ k, k < w.heap.size → k ≠ a.block → w2.heap[k]? = w.heap[k]? := fun k hk hne => (g2.block k (by omega) (fun e => hne (by cases e; rfl))).trans (hold1 k hk)
  have hnew2 : w2.heap[w.heap.size]? = some (.cells #[.pointer none, .pointer none, .int .i64 0, .bool false] T (0, 0)) := (g2.block _ (by omega) (fun e => by have := Option.some.inj e; omega)).trans hnew
  have hcs : ∀ j, j ≠ a.off + b → (cs.setIfInBounds (a.off + b) (Value.pointer (some ⟨w.heap.size, 0, none⟩)))[j]? = cs[j]? := fun j hj => by rw [Array.getElem?_setIfInBounds_ne (Ne.symm hj)]
  have hcb : (cs.setIfInBounds (a.off + b) (Value.pointer (some ⟨w.heap.size, 0, none⟩)))[a.off + b]? = some (Value.pointer (some ⟨w.heap.size, 0, none⟩)) := by rw [Array.getElem?_setIfInBounds_self_of_lt (by omega)]
  have hN : ∀ q c, q ++ [c] ≠ p ++ [b] → addN N (p ++ [b]) ⟨w.heap.size, 0, none⟩ (q ++ [c]) = N (q ++ [c]) := fun q c hne => by unfold addN; rw [if_neg hne]
  refine ⟨w2, e2, ⟨?_, ?_, ?_, ?_, ?_, ?_, ?_, ?_⟩, ⟨g2.os.trans hk1.os, g2.tape.trans hk1.tape, g2.output.trans hk1.output, by omega, fun k hk hne => hold k hk hne⟩, by omega⟩
  · intro v hv
    unfold addN
    rw [if_neg]
    · exact h.root v hv
    · intro e
      have := congrArg List.length e
      simp at this
      exact hp0 this
  · intro q c hq0 hq
    unfold addN at hq ⊢
    split at hq
    · cases hq
    · rename_i hne
      rw [if_neg]
      · exact h.up q c hq0 hq
      · intro e
        obtain ⟨rfl, rfl⟩ := snoc_inj e
        rw [hp] at hq
        cases hq
  · intro q hq
    unfold addN at hq
    split at hq
    · cases hq
    · exact h.clean q hq
  · intro q c hq
    by_cases hqp : q = p ++ [b]
    · subst hqp
      have hc : (⟨w.heap.size, 0, none⟩ : Addr) = c := by
        unfold addN at hq
        rw [if_pos rfl] at hq
        exact Option.some.inj hq
      subst hc
      have hne : ∀ d, p ++ [b] ++ [d] ≠ p ++ [b] := fun d e => by
        have := congrArg List.length e
        simp at this
      have hch : ∀ d, addN N (p ++ [b]) ⟨w.heap.size, 0, none⟩ (p ++ [b] ++ [d]) = none := fun d => by
        unfold addN
        rw [if_neg (hne d)]
        exact h.up _ d (by simp) hn
      refine ⟨rfl, _, T, hnew2, by simp, ?_, ?_, ?_, ?_⟩
      · rw [hch 0]; rfl
      · rw [hch 1]; rfl
      · rw [h.clean _ hn]; rfl
      · rw [h.clean _ hn]; rfl
    · have hq' : N q = some c := by
        unfold addN at hq
        rwa [if_neg hqp] at hq
      have hcl := (h.shape q c hq').lt
      by_cases hqe : q = p
      · subst hqe
        obtain rfl : a = c := Option.some.inj (hp.symm.trans hq')
        have hself : ∀ d, d < 2 → (cs.setIfInBounds (a.off + b) (Value.pointer (some ⟨w.heap.size, 0, none⟩)))[a.off + d]? = some (.pointer (addN N (q ++ [b]) ⟨w.heap.size, 0, none⟩ (q ++ [d]))) := by
          intro d hd
          by_cases hdb : d = b
          · subst hdb
            rw [hcb]
            unfold addN
            rw [if_pos rfl]
          · rw [hcs _ (by omega), hN q d (fun e => hdb (snoc_inj e).2)]
            have : d = 0 ∨ d = 1 := by omega
            rcases this with rfl | rfl
            · exact hc0
            · exact hc1
        exact ⟨hsp, _, t, hh2, by rw [Array.size_setIfInBounds]; exact hsz, hself 0 (by omega), hself 1 (by omega), by rw [hcs _ (by omega)]; exact hc2, by rw [hcs _ (by omega)]; exact hc3⟩
      · obtain ⟨h1, cs', t', h2, h3, h4, h5, h6, h7⟩ := h.shape q c hq'
        rw [← hN q 0 (fun e => hqe (snoc_inj e).1)] at h4
        rw [← hN q 1 (fun e => hqe (snoc_inj e).1)] at h5
        by_cases hbl : c.block = a.block
        · have hap := h.apart q p c a hq' hp hqe hbl
          have e : cs' = cs := by
            rw [hbl, hh] at h2
            simp at h2
            exact h2.1.symm
          subst e
          exact ⟨h1, _, t, by rw [hbl]; exact hh2, by rw [Array.size_setIfInBounds]; exact h3, by rw [hcs _ (by omega)]; exact h4, by rw [hcs _ (by omega)]; exact h5, by rw [hcs _ (by omega)]; exact h6, by rw [hcs _ (by omega)]; exact h7⟩
        · exact ⟨h1, cs', t', (hold _ hcl hbl).trans h2, h3, h4, h5, h6, h7⟩
  · intro q r c d hq hr hne hbl
    unfold addN at hq hr
    split at hq
    · cases hq
      split at hr
      · rename_i h1 h2
        exact absurd (h1.trans h2.symm) hne
      · have := (h.shape r d hr).lt
        dsimp only at hbl
        omega
    · split at hr
      · cases hr
        have := (h.shape q c hq).lt
        dsimp only at hbl
        omega
      · exact h.apart q r c d hq hr hne hbl
  · intro q c hq hbl
    unfold addN at hq
    split at hq
    · cases hq
      have := h.gLt
      dsimp only at hbl
      omega
    · exact h.inTrie q c hq hbl
  · intro q c hq
    unfold addN at hq
    split at hq
    · cases hq
      have := h.gLt
      dsimp only
      omega
    · exact h.ge q c hq
  · obtain ⟨ct, h1, h2, h3⟩ := h.trie
    by_cases hbl : g = a.block
    · have hin := h.inTrie p a hp hbl.symm
      have e : ct = cs ∧ 64 = t := by
        rw [hbl, hh] at h1
        simp at h1
        exact ⟨h1.1.symm, h1.2.symm⟩
      obtain ⟨rfl, rfl⟩ := e
      exact ⟨_, by rw [hbl]; exact hh2, by rw [Array.size_setIfInBounds]; exact h2, by rw [hcs _ (by omega)]; exact h3⟩
    · exact ⟨ct, (hold g h.gLt hbl).trans h1, h2, h3⟩
/-- How many prefixes there are. -/
theorem TrieAt.count {w : World} {g : Nat} {N : Nodes} {M : Keys} {n : Int} (h : TrieAt w g N M n) (m : Int) :
    ∃ w', w.setCell ⟨g, 8, none⟩ (.int .i64 m) = w' ∧ TrieAt w' g N M m ∧ KeptS w.heap.size (fun k => k = g) w w' := by
  obtain ⟨ct, hh, hs, hc⟩ := h.trie
  obtain ⟨w2, e2, hh2, g2⟩ := set_at (o := 8) (u := .int .i64 m) hh
  have hold : ∀ k, k < w.heap.size → k ≠ g → w2.heap[k]? = w.heap[k]? := fun k hk hne => g2.block k hk (fun e => hne (by cases e; rfl))
  refine ⟨w2, e2, ⟨h.root, h.up, h.clean, ?_, h.apart, h.inTrie, h.ge, _, hh2, by rw [Array.size_setIfInBounds]; exact hs, by rw [Array.getElem?_setIfInBounds_self_of_lt (by omega)]⟩, ⟨g2.os, g2.tape, g2.output, g2.size, fun k hk hne => hold k hk hne⟩⟩
  intro q c hq
  have hcl := (h.shape q c hq).lt
  by_cases hbl : c.block = g
  · obtain ⟨h1, cs', t', h2, h3, h4, h5, h6, h7⟩ := h.shape q c hq
    have hin := h.inTrie q c hq hbl
    have e : cs' = ct ∧ t' = 64 := by
      rw [hbl, hh] at h2
      simp at h2
      exact ⟨h2.1.symm, h2.2.symm⟩
    obtain ⟨rfl, rfl⟩ := e
    have hcs : ∀ j, j < 8 → (cs'.setIfInBounds 8 (Value.int .i64 m))[j]? = cs'[j]? := fun j hj => by rw [Array.getElem?_setIfInBounds_ne (by omega)]
    exact ⟨h1, _, _, by rw [hbl]; exact hh2, by rw [Array.size_setIfInBounds]; exact h3, by rw [hcs _ (by omega)]; exact h4, by rw [hcs _ (by omega)]; exact h5, by rw [hcs _ (by omega)]; exact h6, by rw [hcs _ (by omega)]; exact h7⟩
  · exact (h.shape q c hq).on (hold _ hcl hbl)
/-- A prefix gets a value. -/
theorem TrieAt.mark {w : World} {g : Nat} {N : Nodes} {M : Keys} {n : Int} (h : TrieAt w g N M n) {p : List Nat} {a : Addr} (hp : N p = some a) (v : Int) :
    ∃ w1 w', w.setCell ⟨a.block, a.off + 2, none⟩ (.int .i64 v) = w1 ∧ w1.setCell ⟨a.block, a.off + 3, none⟩ (.bool true) = w' ∧ (∃ x, w1.cell? ⟨a.block, a.off + 3, none⟩ = some x) ∧ w1.frozen? ⟨a.block, a.off + 3, none⟩ = false ∧
      TrieAt w' g N (upd M p v) n ∧ KeptS w.heap.size (fun k => k = a.block) w w' ∧ KeptS w.heap.size (fun k => k = a.block) w w1 := by
  have hsh := h.shape p a hp
  have hlt := hsh.lt
  obtain ⟨hsp, cs, t, hh, hsz, hc0, hc1, hc2, hc3⟩ := hsh
  obtain ⟨w1, e1, hh1, g1⟩ := set_at (o := a.off + 2) (u := .int .i64 v) hh
  obtain ⟨w2, e2, hh2, g2⟩ := set_at (o := a.off + 3) (u := .bool true) hh1
  have hz1 := g1.size
  have hz2 := g2.size
  have hold1 : ∀ k, k < w.heap.size → k ≠ a.block → w1.heap[k]? = w.heap[k]? := fun k hk hne => g1.block k hk (fun e => hne (by cases e; rfl))
  have hold : ∀ k, k < w.heap.size → k ≠ a.block → w2.heap[k]? = w.heap[k]? := fun k hk hne => (g2.block k (by omega) (fun e => hne (by cases e; rfl))).trans (hold1 k hk hne)
  have hcs : ∀ j, j ≠ a.off + 2 → j ≠ a.off + 3 → ((cs.setIfInBounds (a.off + 2) (Value.int .i64 v)).setIfInBounds (a.off + 3) (.bool true))[j]? = cs[j]? := fun j h1 h2 => by
    rw [Array.getElem?_setIfInBounds_ne (Ne.symm h2), Array.getElem?_setIfInBounds_ne (Ne.symm h1)]
  have hM : ∀ q, q ≠ p → upd M p v q = M q := fun q hq => by unfold upd; rw [if_neg hq]
  refine ⟨w1, w2, e1, e2, ?_, by rw [blk_free hh1], ⟨h.root, h.up, ?_, ?_, h.apart, h.inTrie, h.ge, ?_⟩, ⟨g2.os.trans g1.os, g2.tape.trans g1.tape, g2.output.trans g1.output, by omega, fun k hk hne => hold k hk hne⟩, ⟨g1.os, g1.tape, g1.output, hz1, fun k hk hne => hold1 k hk hne⟩⟩
  · rw [blk_cell hh1, Array.getElem?_setIfInBounds_ne (by omega)]
    exact ⟨_, hc3⟩
  · intro q hq
    rw [hM q (fun e => by rw [e, hp] at hq; cases hq)]
    exact h.clean q hq
  · intro q c hq
    have hcl := (h.shape q c hq).lt
    by_cases hqe : q = p
    · subst hqe
      obtain rfl : a = c := Option.some.inj (hp.symm.trans hq)
      have e : upd M q v q = some v := by unfold upd; rw [if_pos rfl]
      refine ⟨hsp, _, t, hh2, by rw [Array.size_setIfInBounds, Array.size_setIfInBounds]; exact hsz, by rw [hcs _ (by omega) (by omega)]; exact hc0, by rw [hcs _ (by omega) (by omega)]; exact hc1, ?_, ?_⟩
      · rw [Array.getElem?_setIfInBounds_ne (by omega), Array.getElem?_setIfInBounds_self_of_lt (by omega), e]
        rfl
      · rw [Array.getElem?_setIfInBounds_self_of_lt (by rw [Array.size_setIfInBounds]; omega), e]
        rfl
    · obtain ⟨h1, cs', t', h2, h3, h4, h5, h6, h7⟩ := h.shape q c hq
      rw [← hM q hqe] at h6 h7
      by_cases hbl : c.block = a.block
      · have hap := h.apart q p c a hq hp hqe hbl
        have e : cs' = cs := by
          rw [hbl, hh] at h2
          simp at h2
          exact h2.1.symm
        subst e
        exact ⟨h1, _, t, by rw [hbl]; exact hh2, by rw [Array.size_setIfInBounds, Array.size_setIfInBounds]; exact h3, by rw [hcs _ (by omega) (by omega)]; exact h4, by rw [hcs _ (by omega) (by omega)]; exact h5, by rw [hcs _ (by omega) (by omega)]; exact h6, by rw [hcs _ (by omega) (by omega)]; exact h7⟩
      · exact ⟨h1, cs', t', (hold _ hcl hbl).trans h2, h3, h4, h5, h6, h7⟩
  · obtain ⟨ct, h1, h2, h3⟩ := h.trie
    by_cases hbl : g = a.block
    · have hin := h.inTrie p a hp hbl.symm
      have e : ct = cs ∧ 64 = t := by
        rw [hbl, hh] at h1
        simp at h1
        exact ⟨h1.1.symm, h1.2.symm⟩
      obtain ⟨rfl, rfl⟩ := e
      exact ⟨_, by rw [hbl]; exact hh2, by rw [Array.size_setIfInBounds, Array.size_setIfInBounds]; exact h2, by rw [hcs _ (by omega) (by omega)]; exact h3⟩
    · exact ⟨ct, (hold g h.gLt hbl).trans h1, h2, h3⟩
end Addr05
end Go.Proofs.YtccmbnaakdffaaaDoor
/- pfx: Trie: top, Put, Len. Conditions: numbers of 64 bits, at most 2^40 prefixes. -/
namespace Go.Proofs.YtccmbnaakdffaaaDoor
open Go.RowKit Go.ChangeShapes Go.WideShapes Go.ChangeAt Go.Deep
namespace Addr05
def vbit (v6 : Bool) : Nat := if v6 then 1 else 0
theorem vbit_lt (v6 : Bool) : vbit v6 < 2 := by unfold vbit; split <;> omega
/-- The path of an address's first bits. -/
def pkey (a : Adr) (k : Nat) : List Nat := vbit a.v6 :: (List.range k).map a.bit
theorem pkey_succ (a : Adr) (k : Nat) : pkey a (k + 1) = pkey a k ++ [a.bit k] := by
  unfold pkey
  rw [List.range_succ, List.map_append]
  rfl
theorem bit_lt (a : Adr) (k : Nat) : a.bit k < 2 := by
  unfold Adr.bit
  repeat' split
  all_goals omega
theorem top_any (g : Nat) (v6 : Bool) (hi lo : Int) (w : World) :
    Calls Tryd.prog 55 #[.pointer (some ⟨g, 0, none⟩), .agg #[.bool v6, .int .u64 hi, .int .u64 lo]] w fun e w' => e = .returned (.pointer (some ⟨g, 4 * vbit v6, none⟩)) ∧ Below w.heap.size w w' := by
  cases v6
  · go_enter Tryd.func55, Tryd.ntmps55
    go_wp2_with fail
    go_ret
    exact ⟨rfl, (Below.refl _ _).alloc (Nat.le_refl _) _⟩
  · go_enter Tryd.func55, Tryd.ntmps55
    go_wp2_with fail
    go_ret
    exact ⟨rfl, (Below.refl _ _).alloc (Nat.le_refl _) _⟩
theorem len_any {w : World} {g : Nat} {N : Nodes} {M : Keys} {n : Int} (h : TrieAt w g N M n) :
    Calls Tryd.prog 37 #[.pointer (some ⟨g, 0, none⟩)] w fun e w' => e = .returned (.int .i64 n) ∧ w' = w := by
  obtain ⟨ct, hh, hs, hc⟩ := h.trie
  have h8 := (blk_cell hh 8).trans hc
  clear h hh hs hc
  go_enter Tryd.func37, Tryd.ntmps37
  go_wp2_with fail
  go_ret
  exact ⟨rfl, rfl⟩
set_option maxRecDepth 20000 in
set_option maxHeartbeats 8000000 in
theorem put_no (g : Nat) (a : Adr) (ho : a.ok) (i v : Int) (hr : rightP a i = false) (w : World) :
    Calls Tryd.prog 35 #[.pointer (some ⟨g, 0, none⟩), .agg (pArr a i), .int .i64 v] w fun e w' => e = .returned (.int .i64 1) ∧ Below w.heap.size w w' := by
  have hR := fun w => pRight_any a ho i w
  rw [hr] at hR
  unfold pArr at hR ⊢
  obtain ⟨w1, hw1⟩ : ∃ w1, w.alloc (.cells #[.bool a.v6, .int .u64 (a.hi : Int), .int .u64 (a.lo : Int), .int .i64 i] 45) = w1 := ⟨_, rfl⟩
  have hB : Below w.heap.size w w1 := hw1 ▸ (Below.refl _ _).alloc (Nat.le_refl _) _
  have hg : w1.heap[w.heap.size]? = some (.cells #[.bool a.v6, .int .u64 (a.hi : Int), .int .u64 (a.lo : Int), .int .i64 i] 45 (0, 0)) := hw1 ▸ blk_new _ _ _
  have hcg := blk_cell hg
  replace hB := hide hB
  replace hg := hide hg
  replace hR := hide hR
  go_enter Tryd.func35, Tryd.ntmps35
  go_wp2_with fail
  clear hw1
  refine (hR.out w1).mono ?_
  rintro e w2 ⟨rfl, hb2⟩
  have hB2 := hB.out.trans (hb2.mono hB.out.size)
  clear hb2 hcg
  replace hB2 := hide hB2
  go_wp2_with fail
  go_ret
  exact ⟨rfl, hB2.out⟩
/-- What Put leaves. -/
def PutEnd (g : Nat) (N : Nodes) (M : Keys) (key : List Nat) (v n : Int) (w w' : World) : Prop :=
  ∃ N', TrieAt w' g N' (upd M key v) (if (M key).isSome = true then n else n + 1) ∧ KeptS w.heap.size (isNode N) w w' ∧ ∀ k, isNode N' k → isNode N k ∨ w.heap.size ≤ k
set_option maxRecDepth 20000 in
set_option maxHeartbeats 8000000 in
theorem put_yes (g : Nat) (a : Adr) (ho : a.ok) (k : Nat) (v : Int) (hr : rightP a (k : Int) = true) (w : World) (N : Nodes) (M : Keys) (n : Int) (hn0 : 0 ≤ n) (hn : n < 1099511627776) (hT : TrieAt w g N M n) :
    Calls Tryd.prog 35 #[.pointer (some ⟨g, 0, none⟩), .agg (pArr a (k : Int)), .int .i64 v] w fun e w' => e = .returned (.int .i64 0) ∧ PutEnd g N M (pkey a k) v n w w' := by
  have hR := fun w => pRight_any a ho (k : Int) w
  rw [hr] at hR
  have hk128 : k ≤ 128 := Nat.le_trans (rightP_facts a k hr).2.1 a.w_le
  have hbit : ∀ (j : Nat) (w : World), j < 128 → Calls Tryd.prog 24 #[.agg #[.bool a.v6, .int .u64 (a.hi : Int), .int .u64 (a.lo : Int)], .int .i64 (j : Int)] w fun e w' => e = .returned (.int .i64 (a.bit j : Int)) ∧ Below w.heap.size w w' := by
    intro j w hj
    have h := Bit_any a ho (j : Int) (by omega) (by omega) w
    have e : bitI a (j : Int) = (a.bit j : Int) := by unfold bitI; rw [if_pos (by omega), Int.toNat_natCast]
    rwa [e] at h
  have htop := fun w => top_any g a.v6 (a.hi : Int) (a.lo : Int) w
  have hb2 := bit_lt a
  have hks := pkey_succ a
  have hk0 : pkey a 0 = [vbit a.v6] := rfl
  have hkne : ∀ j, pkey a j ≠ [] := fun j => by unfold pkey; simp
  obtain ⟨f, hf⟩ : ∃ f, a.bit = f := ⟨_, rfl⟩
  obtain ⟨K, hK⟩ : ∃ K, pkey a = K := ⟨_, rfl⟩
  rw [hf] at hbit hb2 hks
  rw [hK] at hks hk0 hkne ⊢
  have hvl := vbit_lt a.v6
  clear hf hK ho hr
  unfold pArr at hR ⊢
  obtain ⟨av, ah, al⟩ := a
  dsimp only at hR hbit htop hk0 hvl ⊢
  obtain ⟨w1, hw1⟩ : ∃ w1, w.alloc (.cells #[.bool av, .int .u64 (ah : Int), .int .u64 (al : Int), .int .i64 (k : Int)] 45) = w1 := ⟨_, rfl⟩
  have hB : Below w.heap.size w w1 := hw1 ▸ (Below.refl _ _).alloc (Nat.le_refl _) _
  have hg : w1.heap[w.heap.size]? = some (.cells #[.bool av, .int .u64 (ah : Int), .int .u64 (al : Int), .int .i64 (k : Int)] 45 (0, 0)) := hw1 ▸ blk_new _ _ _
  have hcg := blk_cell hg
  have hT1 := hT.below hB
  replace hB := hide hB
  replace hg := hide hg
  replace hT1 := hide hT1
  replace hR := hide hR
  replace hbit := hide hbit
  replace htop := hide htop
  replace hb2 := hide hb2
  replace hks := hide hks
  replace hk0 := hide hk0
  replace hkne := hide hkne
  go_enter Tryd.func35, Tryd.ntmps35
  go_wp2_with fail
  clear hw1
  refine (hR.out w1).mono ?_
  rintro e w2 ⟨rfl, hbb⟩
  replace hB := hide (hB.out.trans (hbb.mono hB.out.size))
  replace hg := hide (blk_on hbb hg.out)
  replace hT1 := hide (hT1.out.below hbb)
  clear hbb
  clear hcg hR
  have hcg := blk_cell hg.out
  go_wp2_with fail
  refine (htop.out w2).mono ?_
  rintro e w3 ⟨rfl, hbb⟩
  replace hB := hide (hB.out.trans (hbb.mono hB.out.size))
  replace hg := hide (blk_on hbb hg.out)
  replace hT1 := hide (hT1.out.below hbb)
  clear hbb
  clear hcg htop
  have hcg := blk_cell hg.out
  go_wp2_with fail
  have hB3 := hB.out
  have hzS := hB3.size
  have hbox := World.block_lt_of_cell? w3 _ (hcg 0)
  dsimp only at hbox
  have hnb : ∀ p c, N p = some c → c.block ≠ w.heap.size := fun p c h e => by have := (hT.shape p c h).lt; omega
  clear hcg
  go_loopw [7, 8, 9, 23] (fun xv _ _ cv wr => ∃ (j : Nat) (N' : Nodes) (ad : Addr), j ≤ k ∧ cv = .int .i64 (j : Int) ∧ xv = .pointer (some ad) ∧ N' (K j) = some ad ∧ TrieAt wr g N' M n ∧ KeptS w3.heap.size (isNode N) w3 wr ∧ (∀ q c, N' q = some c → isNode N c.block ∨ w3.heap.size ≤ c.block)) (fun _ _ _ cv _ => k - (intOf cv).toNat)
  case atStart => exact ⟨0, N, _, by omega, rfl, rfl, by rw [hk0.out]; exact hT1.out.root _ hvl, hT1.out, keptS_refl _ _ _, fun q c h => .inl ⟨q, c, h, rfl⟩⟩
  case round =>
    obtain ⟨j, N', ad, hj, rfl, rfl, hNj, hTr, hkr, hown⟩ := hrel
    have hgr : wr.heap[w.heap.size]? = some (.cells #[.bool av, .int .u64 (ah : Int), .int .u64 (al : Int), .int .i64 (k : Int)] 45 (0, 0)) := (hkr.block _ hbox (fun ⟨p, c, h, e⟩ => hnb p c h e)).trans hg.out
    have hzr := hkr.size
    have hsp := (hTr.shape _ _ hNj).1
    obtain ⟨blk, off, spot⟩ := ad
    dsimp only at hsp
    subst hsp
    by_cases hjk : j < k
    · have i1 : (j : Int) < (k : Int) := by omega
      have hcg := blk_cell hgr
      have hbq := hbit.out j wr (by omega)
      have hbj := hb2.out j
      have hke := hks.out j
      obtain ⟨b, hbe⟩ : ∃ b, f j = b := ⟨_, rfl⟩
      rw [hbe] at hbq hbj hke
      have ib1 : (0 : Int) ≤ (b : Int) := by omega
      have ib2 : (b : Int) < 2 := by omega
      have hkn := hkne.out j
      replace hTr := hide hTr
      replace hkr := hide hkr
      replace hown := hide hown
      replace hNj := hide hNj
      replace hgr := hide hgr
      replace hbq := hide hbq
      replace hke := hide hke
      replace hkn := hide hkn
      replace hbe := hide hbe
      go_wp2_with fail
      refine hbq.out.mono ?_
      rintro e w5 ⟨rfl, hb5⟩
      have hT5 := hTr.out.below hb5
      have hz5 := hb5.size
      have hk5 := keptS_trans _ _ _ _ _ hkr.out (keptS_of_below (P := isNode N) hb5 hzr)
      have hnx := (hT5.shape _ _ hNj.out).next hbj
      dsimp only at hnx
      rw [← hke.out] at hnx
      clear hb5 hcg hbq
      obtain ⟨r, hcn⟩ : ∃ r, N' (K (j + 1)) = r := ⟨_, rfl⟩
      rw [hcn] at hnx
      cases r with
      | none =>
        obtain ⟨w6, e6, hT6, hk6, hz6⟩ := hT5.grow hNj.out hkn.out hbj (by rw [← hke.out]; exact hcn) (T := 61)
        have hlt5 := (hT5.shape _ _ hNj.out).lt
        dsimp only at hlt5 e6 hk6
        have c1 : (w5.alloc (.cells #[.pointer none, .pointer none, .int .i64 0, .bool false] 61)).cell? ⟨blk, off + b, none⟩ = some (.pointer none) := (World.cell?_of_block (((Below.refl w5.heap.size w5).alloc (Nat.le_refl _) _).block blk hlt5)).trans hnx
        have f1 : (w5.alloc (.cells #[.pointer none, .pointer none, .int .i64 0, .bool false] 61)).frozen? ⟨blk, off + b, none⟩ = false := by
          obtain ⟨-, cs, t, h2, -⟩ := hT5.shape _ _ hNj.out
          rw [blk_free (blk_old (Obj.cells #[.pointer none, .pointer none, .int .i64 0, .bool false] 61 (0, 0)) hlt5 h2)]
        have hN6 : addN N' (K j ++ [b]) ⟨w5.heap.size, 0, none⟩ (K j) = some ⟨blk, off, none⟩ := by
          unfold addN
          rw [if_neg]
          · exact hNj.out
          · intro e
            have := congrArg List.length e
            simp at this
        have hnx6 := (hT6.shape _ _ hN6).next hbj
        dsimp only at hnx6
        have eN : addN N' (K j ++ [b]) ⟨w5.heap.size, 0, none⟩ (K j ++ [b]) = some ⟨w5.heap.size, 0, none⟩ := by unfold addN; rw [if_pos rfl]
        rw [eN] at hnx6
        have hk7 : KeptS w3.heap.size (isNode N) w3 w6 := by
          refine keptS_trans _ _ _ _ _ hk5 ⟨hk6.os, hk6.tape, hk6.output, hk6.size, fun q hq hne => hk6.block q (by omega) (fun e => hne ?_)⟩
          rcases hown.out _ _ hNj.out with h | h
          · rw [e]; exact h
          · dsimp only at h; omega
        have hown6 : ∀ q c, addN N' (K j ++ [b]) ⟨w5.heap.size, 0, none⟩ q = some c → isNode N c.block ∨ w3.heap.size ≤ c.block := by
          intro q c h
          unfold addN at h
          split at h
          · cases h; exact .inr (by dsimp only; omega)
          · exact hown.out q c h
        rw [← hke.out] at hT6 hown6 eN
        clear hk6 hT5 hk5 hTr hkr hown hN6
        replace hT6 := hide hT6
        replace hk7 := hide hk7
        replace hown6 := hide hown6
        replace eN := hide eN
        replace hcn := hide hcn
        replace hNj := hide hNj
        go_wp2_with fail
        refine ⟨⟨j + 1, _, _, by omega, by first | rfl | go_num, rfl, eN.out, hT6.out, hk7.out, hown6.out⟩, by simp only [intOf]; omega⟩
      | some c =>
        clear hTr hkr
        replace hT5 := hide hT5
        replace hk5 := hide hk5
        replace hcn := hide hcn
        go_wp2_with fail
        refine ⟨⟨j + 1, N', c, by omega, by first | rfl | go_num, rfl, hcn.out, hT5.out, hk5.out, hown.out⟩, by simp only [intOf]; omega⟩
    · obtain rfl : j = k := by omega
      have i1 : ((j : Int) < (j : Int)) = False := by simp
      have hve := (hTr.shape _ _ hNj).val.2
      dsimp only at hve
      obtain ⟨hs, hhs⟩ : ∃ b, (M (K j)).isSome = b := ⟨_, rfl⟩
      rw [hhs] at hve
      have hkS : KeptS w.heap.size (isNode N) w wr := keptS_trans _ _ _ _ _ (keptS_of_below hB3 (Nat.le_refl _)) ⟨hkr.os, hkr.tape, hkr.output, hkr.size, fun q hq hne => hkr.block q (by omega) hne⟩
      have hnode : ∀ q, q < w.heap.size → q = blk → isNode N q := fun q hq e => by
        rcases hown _ _ hNj with h | h
        · rw [e]; exact h
        · dsimp only at h; omega
      have hfar : ∀ k, isNode N' k → isNode N k ∨ w.heap.size ≤ k := by
        rintro k ⟨p, c, h, rfl⟩
        rcases hown _ _ h with h | h
        · exact .inl h
        · exact .inr (by omega)
      replace hfar := hide hfar
      cases hs
      · obtain ⟨w5, e5, hT5, hk5⟩ := hTr.count (n + 1)
        obtain ⟨w6, w7, e6, e7, ⟨x3, c3⟩, f3, hT7, hk7, -⟩ := hT5.mark hNj v
        dsimp only at e6 e7 c3 f3 hk7
        obtain ⟨ct, ht1, ht2, ht3⟩ := hTr.trie
        have c8 := (blk_cell ht1 8).trans ht3
        have f8 := blk_free ht1 8
        have c2 := ((hT5.shape _ _ hNj).val).1
        have f2 := (hT5.shape _ _ hNj).free (off + 2)
        dsimp only at c2 f2
        have wn : IntKind.i64.wrap (n + 1) = n + 1 := wraps62 _ (by omega) (by omega)
        have hkf : KeptS w.heap.size (isNode N) w w7 := by
          refine keptS_trans _ _ _ _ _ hkS (keptS_trans _ _ _ _ _ ⟨hk5.os, hk5.tape, hk5.output, hk5.size, fun q hq hne => hk5.block q (by have := hkS.size; omega) (fun e => hne ⟨_, _, hT.root 0 (by omega), e.symm⟩)⟩ ⟨hk7.os, hk7.tape, hk7.output, hk7.size, fun q hq hne => hk7.block q (by have := hkS.size; have := hk5.size; omega) (fun e => hne (hnode q hq e))⟩)
        clear hTr hT5 hk5 hk7 ht1 ht2 ht3 hown hnode hkS
        replace hT7 := hide hT7
        replace hkf := hide hkf
        replace hNj := hide hNj
        replace hkr := hide hkr
        replace hgr := hide hgr
        replace hhs := hide hhs
        replace hnb := hide hnb
        go_wp2_with fail
        go_ret
        exact ⟨rfl, N', by rw [hhs.out, if_neg (by simp)]; exact hT7.out, hkf.out, hfar.out⟩
      · obtain ⟨w6, w7, e6, e7, ⟨x3, c3⟩, f3, hT7, hk7, -⟩ := hTr.mark hNj v
        dsimp only at e6 e7 c3 f3 hk7
        have c2 := ((hTr.shape _ _ hNj).val).1
        have f2 := (hTr.shape _ _ hNj).free (off + 2)
        dsimp only at c2 f2
        have hkf : KeptS w.heap.size (isNode N) w w7 := keptS_trans _ _ _ _ _ hkS ⟨hk7.os, hk7.tape, hk7.output, hk7.size, fun q hq hne => hk7.block q (by have := hkS.size; omega) (fun e => hne (hnode q hq e))⟩
        clear hTr hk7 hown hnode hkS
        replace hT7 := hide hT7
        replace hkf := hide hkf
        replace hNj := hide hNj
        replace hkr := hide hkr
        replace hgr := hide hgr
        replace hhs := hide hhs
        replace hnb := hide hnb
        go_wp2_with fail
        go_ret
        exact ⟨rfl, N', by rw [hhs.out, if_pos rfl]; exact hT7.out, hkf.out, hfar.out⟩
end Addr05
end Go.Proofs.YtccmbnaakdffaaaDoor
/- pfx: Trie: Find. Conditions: numbers of 64 bits. -/
namespace Go.Proofs.YtccmbnaakdffaaaDoor
open Go.RowKit Go.ChangeShapes Go.WideShapes Go.ChangeAt Go.Deep
namespace Addr05
/-- The last value among the first so many. -/
def best (m : Nat → Option Int) : Nat → Option (Int × Nat)
  | 0 => none
  | i + 1 => match m i with
    | some v => some (v, i)
    | none => best m i
theorem best_none (m : Nat → Option Int) (i : Nat) : ∀ d, (∀ j, i ≤ j → m j = none) → best m (i + d) = best m i
  | 0, _ => rfl
  | d + 1, h => by
    rw [← Nat.add_assoc, best, h (i + d) (by omega)]
    exact best_none m i d h
def fV (r : Option (Int × Nat)) : Int := match r with | none => 0 | some p => p.1
def fN (r : Option (Int × Nat)) : Int := match r with | none => 0 | some p => (p.2 : Int)
theorem TrieAt.gone {w : World} {g : Nat} {N : Nodes} {M : Keys} {n : Int} (h : TrieAt w g N M n) (a : Adr) (j : Nat) (hj : N (pkey a j) = none) : ∀ d, N (pkey a (j + d)) = none
  | 0 => hj
  | d + 1 => by
    rw [← Nat.add_assoc, pkey_succ]
    exact h.up _ _ (by unfold pkey; simp) (TrieAt.gone h a j hj d)
set_option maxRecDepth 20000 in
set_option maxHeartbeats 8000000 in
theorem find_no (g : Nat) (a : Adr) (hr : rightB a.v6 a.hi a.lo = false) (w : World) :
    Calls Tryd.prog 36 #[.pointer (some ⟨g, 0, none⟩), .agg #[.bool a.v6, .int .u64 (a.hi : Int), .int .u64 (a.lo : Int)]] w fun e w' => e = .returned (.tuple #[.int .i64 0, .int .i64 0, .bool false]) ∧ Below w.heap.size w w' := by
  have hR := fun w => Right_any a.v6 a.hi a.lo w
  rw [hr] at hR
  obtain ⟨w1, hw1⟩ : ∃ w1, w.alloc (.cells #[.bool a.v6, .int .u64 (a.hi : Int), .int .u64 (a.lo : Int)] 24) = w1 := ⟨_, rfl⟩
  have hB : Below w.heap.size w w1 := hw1 ▸ (Below.refl _ _).alloc (Nat.le_refl _) _
  have hg : w1.heap[w.heap.size]? = some (.cells #[.bool a.v6, .int .u64 (a.hi : Int), .int .u64 (a.lo : Int)] 24 (0, 0)) := hw1 ▸ blk_new _ _ _
  have hcg := blk_cell hg
  replace hB := hide hB
  replace hg := hide hg
  replace hR := hide hR
  go_enter Tryd.func36, Tryd.ntmps36
  go_wp2_with fail
  clear hw1
  refine (hR.out w1).mono ?_
  rintro e w2 ⟨rfl, hb2⟩
  have hB2 := hB.out.trans (hb2.mono hB.out.size)
  clear hb2 hcg
  replace hB2 := hide hB2
  go_wp2_with fail
  refine bodyPost_ret (v := .tuple #[.int .i64 0, .int .i64 0, .bool false]) (by simp [results, Tryd.results36, go_sem]) rfl ⟨rfl, hB2.out⟩
set_option maxRecDepth 20000 in
set_option maxHeartbeats 8000000 in
theorem find_yes (g : Nat) (a : Adr) (ho : a.ok) (hr : rightB a.v6 a.hi a.lo = true) (w : World) (N : Nodes) (M : Keys) (n : Int) (hT : TrieAt w g N M n) :
    Calls Tryd.prog 36 #[.pointer (some ⟨g, 0, none⟩), .agg #[.bool a.v6, .int .u64 (a.hi : Int), .int .u64 (a.lo : Int)]] w fun e w' => e = .returned (.tuple #[.int .i64 (fV (best (fun j => M (pkey a j)) (a.w + 1))), .int .i64 (fN (best (fun j => M (pkey a j)) (a.w + 1))), .bool (best (fun j => M (pkey a j)) (a.w + 1)).isSome]) ∧ Below w.heap.size w w' := by
  have hR := fun w => Right_any a.v6 a.hi a.lo w
  rw [hr] at hR
  have hw128 := a.w_le
  have hBits : ∀ w : World, Calls Tryd.prog 22 #[.agg #[.bool a.v6, .int .u64 (a.hi : Int), .int .u64 (a.lo : Int)]] w fun e w' => e = .returned (.int .i64 (a.w : Int)) ∧ Below w.heap.size w w' := by
    intro w
    have h := Bits_any a.v6 (a.hi : Int) (a.lo : Int) w
    have e : (if a.v6 = true then (128 : Int) else 32) = (a.w : Int) := by unfold Adr.w; split <;> rfl
    rwa [e] at h
  have hbit : ∀ (j : Nat) (w : World), j < 128 → Calls Tryd.prog 24 #[.agg #[.bool a.v6, .int .u64 (a.hi : Int), .int .u64 (a.lo : Int)], .int .i64 (j : Int)] w fun e w' => e = .returned (.int .i64 (a.bit j : Int)) ∧ Below w.heap.size w w' := by
    intro j w hj
    have h := Bit_any a ho (j : Int) (by omega) (by omega) w
    have e : bitI a (j : Int) = (a.bit j : Int) := by unfold bitI; rw [if_pos (by omega), Int.toNat_natCast]
    rwa [e] at h
  have htop := fun w => top_any g a.v6 (a.hi : Int) (a.lo : Int) w
  have hb2 := bit_lt a
  have hks := pkey_succ a
  have hk0 : pkey a 0 = [vbit a.v6] := rfl
  have hgone := fun (w : World) (h : TrieAt w g N M n) j hj d => TrieAt.gone h a j hj d
  obtain ⟨f, hf⟩ : ∃ f, a.bit = f := ⟨_, rfl⟩
  obtain ⟨K, hK⟩ : ∃ K, pkey a = K := ⟨_, rfl⟩
  obtain ⟨W, hW⟩ : ∃ W, a.w = W := ⟨_, rfl⟩
  rw [hf] at hbit hb2 hks
  rw [hK] at hks hk0 hgone ⊢
  rw [hW] at hBits hw128 ⊢
  obtain ⟨m, hm⟩ : ∃ m, (fun j => M (K j)) = m := ⟨_, rfl⟩
  have hmj : ∀ j, M (K j) = m j := fun j => by rw [← hm]
  rw [hm]
  obtain ⟨RR, hRR⟩ : ∃ r, best m (W + 1) = r := ⟨_, rfl⟩
  rw [hRR]
  have hvl := vbit_lt a.v6
  clear hf hK hW hm ho hr
  obtain ⟨av, ah, al⟩ := a
  dsimp only at hR hBits hbit htop hk0 hvl ⊢
  obtain ⟨w1, hw1⟩ : ∃ w1, w.alloc (.cells #[.bool av, .int .u64 (ah : Int), .int .u64 (al : Int)] 24) = w1 := ⟨_, rfl⟩
  have hB : Below w.heap.size w w1 := hw1 ▸ (Below.refl _ _).alloc (Nat.le_refl _) _
  have hg : w1.heap[w.heap.size]? = some (.cells #[.bool av, .int .u64 (ah : Int), .int .u64 (al : Int)] 24 (0, 0)) := hw1 ▸ blk_new _ _ _
  have hcg := blk_cell hg
  have hT1 := hT.below hB
  clear hT
  replace hB := hide hB
  replace hg := hide hg
  replace hT1 := hide hT1
  replace hR := hide hR
  replace hBits := hide hBits
  replace hbit := hide hbit
  replace htop := hide htop
  replace hb2 := hide hb2
  replace hks := hide hks
  replace hk0 := hide hk0
  replace hgone := hide hgone
  replace hmj := hide hmj
  replace hRR := hide hRR
  go_enter Tryd.func36, Tryd.ntmps36
  go_wp2_with fail
  clear hw1
  refine (hR.out w1).mono ?_
  rintro e w2 ⟨rfl, hbb⟩
  replace hB := hide (hB.out.trans (hbb.mono hB.out.size))
  replace hg := hide (blk_on hbb hg.out)
  replace hT1 := hide (hT1.out.below hbb)
  clear hbb
  clear hcg hR
  have hcg := blk_cell hg.out
  go_wp2_with fail
  refine (htop.out w2).mono ?_
  rintro e w3 ⟨rfl, hbb⟩
  replace hB := hide (hB.out.trans (hbb.mono hB.out.size))
  replace hg := hide (blk_on hbb hg.out)
  replace hT1 := hide (hT1.out.below hbb)
  clear hbb
  clear hcg htop
  go_wp2_with fail
  go_loopw [7, 8, 9, 10, 11] (fun vv lv fv xv iv wr => ∃ j : Nat, j ≤ W ∧ iv = .int .i64 (j : Int) ∧ xv = .pointer (N (K j)) ∧ vv = .int .i64 (fV (best m j)) ∧ lv = .int .i64 (fN (best m j)) ∧ fv = .bool (best m j).isSome ∧ Below w3.heap.size w3 wr) (fun _ _ _ _ iv _ => W + 1 - (intOf iv).toNat)
  case atStart => exact ⟨0, by omega, rfl, by rw [hk0.out, hT1.out.root _ hvl], rfl, rfl, rfl, Below.refl _ _⟩
  case round =>
    obtain ⟨j, hj, rfl, rfl, rfl, rfl, rfl, hbrk⟩ := hrel
    have hbrz := hbrk.size
    replace hB := hide (hB.out.trans (hbrk.mono hB.out.size))
    replace hg := hide (blk_on hbrk hg.out)
    replace hT1 := hide (hT1.out.below hbrk)
    replace hbrk := hide hbrk
    obtain ⟨r, hcn⟩ : ∃ r, N (K j) = r := ⟨_, rfl⟩
    rw [hcn]
    obtain ⟨BJ, hBJ⟩ : ∃ r, best m j = r := ⟨_, rfl⟩
    rw [hBJ]
    cases r with
    | none =>
      have hfin : RR = BJ := by
        rw [← hRR.out, ← hBJ, show W + 1 = j + (W + 1 - j) by omega]
        refine best_none m j _ fun q hq => ?_
        rw [← hmj.out q]
        have := hgone.out _ hT1.out j hcn (q - j)
        rw [show j + (q - j) = q by omega] at this
        exact hT1.out.clean _ this
      subst hfin
      clear hRR hcn hBJ hgone
      go_wp2_with fail
      refine bodyPost_ret (v := .tuple #[.int .i64 (fV RR), .int .i64 (fN RR), .bool RR.isSome]) (by simp [results, Tryd.results36, go_sem]) rfl ⟨rfl, hB.out⟩
    | some ad =>
      have hsh := hT1.out.shape _ _ hcn
      have hsp := hsh.1
      obtain ⟨blk, off, spot⟩ := ad
      dsimp only at hsp
      subst hsp
      obtain ⟨hv2, hv3⟩ := hsh.val
      dsimp only at hv2 hv3
      rw [hmj.out j] at hv2 hv3
      have hnx := hsh.next (hb2.out j)
      dsimp only at hnx
      rw [← hks.out j] at hnx
      have hlt := hsh.lt
      dsimp only at hlt
      have hBn : best m (j + 1) = match m j with | some v => some (v, j) | none => BJ := by rw [best, hBJ]
      obtain ⟨B2, hB2⟩ : ∃ r, best m (j + 1) = r := ⟨_, rfl⟩
      rw [hB2] at hBn
      clear hsh
      obtain ⟨mj, hmje⟩ : ∃ r, m j = r := ⟨_, rfl⟩
      rw [hmje] at hv2 hv3 hBn
      replace hcn := hide hcn
      replace hnx := hide hnx
      replace hBn := hide hBn
      replace hB2 := hide hB2
      replace hBJ := hide hBJ
      replace hmje := hide hmje
      go_upto_if 29 with fail
      go_cut [7, 8, 9] from 22 to 46 (fun vv lv fv wx => vv = .int .i64 (fV B2) ∧ lv = .int .i64 (fN B2) ∧ fv = .bool B2.isSome ∧ wr = wx)
      case first =>
        have hBn' := hBn.out
        cases mj with
        | none =>
          obtain rfl : B2 = BJ := hBn'
          go_wp2_with fail
          go_meet
          exact ⟨rfl, rfl, rfl, rfl⟩
        | some v =>
          obtain rfl : B2 = some (v, j) := hBn'
          have hv2' : wr.cell? ⟨blk, off + 2, none⟩ = some (.int .i64 v) := hv2
          clear hv2
          go_wp2_with fail
          go_meet
          exact ⟨rfl, rfl, rfl, rfl⟩
      case rest =>
        obtain ⟨rfl, rfl, rfl, rfl⟩ := hcut
        clear hv2 hv3 hBn hBJ hmje
        have hcg := blk_cell hg.out
        go_wp2_with fail
        refine (hBits.out wr).mono ?_
        rintro e w5 ⟨rfl, hb5⟩
        have hnx5 := (World.cell?_of_block (hb5.block blk hlt)).trans hnx.out
        have hlt5 : blk < w5.heap.size := Nat.lt_of_lt_of_le hlt hb5.size
        clear hcg
        have hzr := hb5.size
        replace hB := hide (hB.out.trans (hb5.mono hB.out.size))
        replace hg := hide (blk_on hb5 hg.out)
        replace hT1 := hide (hT1.out.below hb5)
        replace hb5 := hide hb5
        by_cases hjW : j = W
        · subst hjW
          have t0 : ((j : Int) == (j : Int)) = true := by simp
          obtain rfl : RR = B2 := by rw [← hRR.out, ← hB2.out]
          clear hnx hnx5 hRR hB2 hgone hcn hb5
          go_wp2_with fail
          refine bodyPost_ret (v := .tuple #[.int .i64 (fV RR), .int .i64 (fN RR), .bool RR.isSome]) (by simp [results, Tryd.results36, go_sem]) rfl ⟨rfl, hB.out⟩
        · have t0 : ((j : Int) == (W : Int)) = false := by rw [beq_eq_false_iff_ne]; omega
          have t1 : ¬ j = W := hjW
          have hbb := hb2.out j
          have q1 := fun l : Later w5 => hbit.out j l.w (by omega)
          obtain ⟨b, hbe⟩ : ∃ b, f j = b := ⟨_, rfl⟩
          rw [hbe] at hnx5 hbb q1
          have ib1 : (0 : Int) ≤ (b : Int) := by omega
          have ib2 : (b : Int) < 2 := by omega
          have hl := fun l : Later w5 => (World.cell?_of_block (l.hb.block blk hlt5)).trans hnx5
          have hla := fun l : Later w5 => blk_cell (blk_on l.hb hg.out)
          clear hnx hnx5 hcn
          replace q1 := hide q1
          replace hbe := hide hbe
          go_upto_region 11 with fail
          refine wp_region_L (by as_aux_lemma => kernel_rfl) ?_
          refine wpE_seg 0 9 (fuel := 0) (by as_aux_lemma => kernel_rfl) (fun d _ _ _ _ h => by cases d <;> exact h) (by as_aux_lemma => kernel_rfl) (by as_aux_lemma => kernel_rfl) ?_
          simp only [List.drop_zero, List.take_succ_cons, List.take_zero]
          iterate 3 (refine wpQE_step (fun K hK => ?_); go_simp; refine hK _ ?_; clear hK K)
          (refine wpQE_step (fun K hK => ?_); go_simp; apply Exists.intro; refine ⟨fun l => ?_, hK _ ?_⟩; (go_at_call 24; refine (q1.out l).mono ?_; rintro e w' ⟨rfl, hb⟩; exact ⟨rfl, hb⟩); clear hK K)
          iterate 5 (refine wpQE_step (fun K hK => ?_); go_simp; refine hK _ ?_; clear hK K)
          refine wpQE_nil ?_
          refine wpE_done (by as_aux_lemma => kernel_rfl) (fun w6 hb6 => ?_) 0
          clear hl hla q1
          have hb7 := hbrk.out.trans ((hb5.out.trans (hb6.mono hzr)).mono hbrz)
          clear hb6 hb5
          have hB2' := hB2.out
          replace hb7 := hide hb7
          go_wp2_with fail
          refine ⟨⟨j + 1, by omega, by first | rfl | go_num, rfl, by rw [hB2.out], by rw [hB2.out], by rw [hB2.out], hb7.out⟩, by simp only [intOf]; omega⟩
end Addr05
end Go.Proofs.YtccmbnaakdffaaaDoor
