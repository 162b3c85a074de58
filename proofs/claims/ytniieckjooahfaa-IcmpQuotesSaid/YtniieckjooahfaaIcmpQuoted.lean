/- icmp.Error and icmp.Quoted by contract. Conditions: slices of bytes that read as lists. -/
import Derived.Test.YtniieckjooahfaaSixParse
import Derived.Test.YtniieckjooahfaaFourQuote
import Derived.Test.YtniieckjooahfaaRegionG
namespace Go.Proofs.Ytniieckjooahfaa
open Go.RowKit Go.ChangeShapes Go.WideShapes Go.ChangeAt Go.Deep
namespace Icmp
/-- Does a type tell of an error? -/
def errB (v6 : Bool) (k : Int) : Bool := if v6 then decide (1 ≤ k ∧ k ≤ 4) else decide (k = 3 ∨ k = 4 ∨ k = 5 ∨ k = 11 ∨ k = 12)
theorem error_any (v6 : Bool) (k : Int) (w : World) : Calls Try.prog 52 #[.bool v6, .int .i64 k] w fun e w' => e = .returned (.bool (errB v6 k)) ∧ w = w' := by
  rcases v6 with _ | _
  · by_cases h0 : k = 3
    · subst h0
      go_enter Try.func52, Try.ntmps52
      go_wp2_with fail
      go_ret
      exact ⟨rfl, rfl⟩
    by_cases h1 : k = 4
    · subst h1
      go_enter Try.func52, Try.ntmps52
      go_wp2_with fail
      go_ret
      exact ⟨rfl, rfl⟩
    by_cases h2 : k = 5
    · subst h2
      go_enter Try.func52, Try.ntmps52
      go_wp2_with fail
      go_ret
      exact ⟨rfl, rfl⟩
    by_cases h3 : k = 11
    · subst h3
      go_enter Try.func52, Try.ntmps52
      go_wp2_with fail
      go_ret
      exact ⟨rfl, rfl⟩
    have e : ∀ b : Bool, (k == 12) = b → errB false k = b := by
      intro b hb
      subst hb
      unfold errB
      by_cases h4 : k = 12 <;> simp [h0, h1, h2, h3, h4]
    have t0 : (k == 3) = false := by simp [h0]
    have t1 : (k == 4) = false := by simp [h1]
    have t2 : (k == 5) = false := by simp [h2]
    have t3 : (k == 11) = false := by simp [h3]
    rw [e _ rfl]
    clear h0 h1 h2 h3 e
    go_enter Try.func52, Try.ntmps52
    go_wp2_with fail
    all_goals (go_ret; exact ⟨rfl, rfl⟩)
  · by_cases h1 : 1 ≤ k
    · by_cases h2 : k ≤ 4
      · go_enter Try.func52, Try.ntmps52
        go_wp2_with fail
        go_ret
        exact ⟨ret_bool (by simp [errB, h1, h2]), rfl⟩
      · go_enter Try.func52, Try.ntmps52
        go_wp2_with fail
        go_ret
        exact ⟨ret_bool (by simp [errB, h1, h2]), rfl⟩
    · go_enter Try.func52, Try.ntmps52
      go_wp2_with fail
      go_ret
      exact ⟨ret_bool (by simp [errB]; omega), rfl⟩
theorem set9 {w : World} {g : Nat} {t : TypeId} {a0 a1 a2 a3 a4 a5 a6 a7 a8 : Value} (h : w.heap[g]? = some (.cells #[a0, a1, a2, a3, a4, a5, a6, a7, a8] t (0, 0))) (v0 v1 v2 v3 v4 v5 v6 v7 v8 : Value) :
    ∃ w', (((((((((w.setCell ⟨g, 0, none⟩ v0).setCell ⟨g, 1, none⟩ v1).setCell ⟨g, 2, none⟩ v2).setCell ⟨g, 3, none⟩ v3).setCell ⟨g, 4, none⟩ v4).setCell ⟨g, 5, none⟩ v5).setCell ⟨g, 6, none⟩ v6).setCell ⟨g, 7, none⟩ v7).setCell ⟨g, 8, none⟩ v8) = w' ∧ w'.heap[g]? = some (.cells #[v0, v1, v2, v3, v4, v5, v6, v7, v8] t (0, 0)) ∧ w.grownBy w' (some g) := by
  refine ⟨_, rfl, ?_, ?_⟩
  · simpa using (blk_set (blk_set (blk_set (blk_set (blk_set (blk_set (blk_set (blk_set (blk_set h 0 v0) 1 v1) 2 v2) 3 v3) 4 v4) 5 v5) 6 v6) 7 v7) 8 v8)
  · iterate 9 refine grown_set ?_ rfl _
    exact grown_refl _ _
theorem grown_below {w w' : World} {g B : Nat} (h : w.grownBy w' (some g)) (hB : B ≤ w.heap.size) (hg : B ≤ g) : Below B w w' := below_of_grown h hB (by intro k hk; cases hk; exact hg)
theorem grown_blk {w w' : World} {g k : Nat} {x : Option Obj} (h : w.grownBy w' (some g)) (hk : k < w.heap.size) (hne : k ≠ g) (hx : w.heap[k]? = x) : w'.heap[k]? = x := (h.block k hk (by simpa using hne)).trans hx
/-- Bytes stay when a block is written whose cells they are not. -/
theorem isB_grown {w w' : World} {g B n : Nat} {A : Option Addr} {xs : List UInt8} (h : IsB w B A n xs) (hg : w.grownBy w' (some g)) (hB : B ≤ w.heap.size) {v0 : Value} (h0 : ∀ i, w.cell? ⟨g, i, none⟩ = none ∨ ∃ v, w.cell? ⟨g, i, none⟩ = some v ∧ ∀ z, v ≠ .int .u8 z) (_ : v0 = v0) : IsB w' B A n xs := by
  refine ⟨h.1, fun hn => ?_⟩
  obtain ⟨b, off, e, hb, hc⟩ := h.2 hn
  refine ⟨b, off, e, hb, fun i hi => ?_⟩
  have hne : b ≠ g := by
    rintro rfl
    have h1 := hc i hi
    rcases h0 (off + i) with h2 | ⟨v, h2, h3⟩
    · rw [h2] at h1; cases h1
    · rw [h2] at h1
      cases h1
      exact h3 _ rfl
  rw [← hc i hi]
  exact World.cell?_of_block (hg.block b (Nat.lt_of_lt_of_le hb hB) (by simpa using hne))
/-! ### What is quoted -/
/-- A flow, as a value. -/
abbrev tuV (proto : Int) (sv : Bool) (shi slo : Int) (dv : Bool) (dhi dlo sp dp : Int) : Value := .agg #[.int .i64 proto, .bool sv, .int .u64 shi, .int .u64 slo, .bool dv, .int .u64 dhi, .int .u64 dlo, .int .i64 sp, .int .i64 dp]
abbrev tuC (proto : Int) (sv : Bool) (shi slo : Int) (dv : Bool) (dhi dlo sp dp : Int) : Obj := .cells #[.int .i64 proto, .bool sv, .int .u64 shi, .int .u64 slo, .bool dv, .int .u64 dhi, .int .u64 dlo, .int .i64 sp, .int .i64 dp] 26
abbrev tu0 : Value := tuV 0 false 0 0 false 0 0 0 0
/-- What bytes quote, in version 6 or 4: why nothing (K), or what. -/
def QIs (v6 : Bool) (n : Nat) (xs : List UInt8) (K proto shi slo dhi dlo frag : Nat) (rest : List UInt8) : Prop :=
  if v6 = true then K = Six.quoteK n xs ∧ (K = 0 → ∃ acc, Six.quoteR xs = some (acc, proto, rest) ∧ frag = Six.fragP acc ∧ shi = beN xs 8 8 ∧ slo = beN xs 16 8 ∧ dhi = beN xs 24 8 ∧ dlo = beN xs 32 8)
  else K = Four.quoteK n xs ∧ (K = 0 → proto = (xs.getD 9 0).toNat ∧ shi = 0 ∧ slo = beN xs 12 4 ∧ dhi = 0 ∧ dlo = beN xs 16 4 ∧ frag = beN xs 6 2 % 8192 ∧ rest = xs.drop ((xs.getD 0 0).toNat % 16 * 4))
theorem qIs_some (v6 : Bool) (n : Nat) (xs : List UInt8) : ∃ K proto shi slo dhi dlo frag rest, QIs v6 n xs K proto shi slo dhi dlo frag rest := by
  rcases v6 with _ | _
  · exact ⟨_, _, _, _, _, _, _, _, by unfold QIs; rw [if_neg (by simp)]; exact ⟨rfl, fun _ => ⟨rfl, rfl, rfl, rfl, rfl, rfl, rfl⟩⟩⟩
  · rcases hR : Six.quoteR xs with _ | ⟨acc, next, rest⟩
    · refine ⟨Six.quoteK n xs, 0, 0, 0, 0, 0, 0, [], ?_⟩
      unfold QIs
      rw [if_pos rfl]
      refine ⟨rfl, fun h => ?_⟩
      unfold Six.quoteR at hR
      unfold Six.quoteK at h
      rw [hR] at h
      split at h
      · cases h
      · split at h <;> simp at h
    · exact ⟨_, next, _, _, _, _, _, rest, by unfold QIs; rw [if_pos rfl, hR]; exact ⟨rfl, fun _ => ⟨acc, rfl, rfl, rfl, rfl, rfl, rfl⟩⟩⟩
theorem four_fail (n : Nat) (xs : List UInt8) (K proto shi slo dhi dlo frag : Nat) (rest : List UInt8) (hQ : QIs false n xs K proto shi slo dhi dlo frag rest) (hK : K ≠ 0) (A : Option Addr) (c : Nat) (w : World) (hx : IsB w w.heap.size A n xs) (hnc : n ≤ c) (_hcm : c ≤ maxLen) (hnm : n ≤ 1099511627776) :
    Calls Try.prog 55 #[.slice A n c] w fun e w' => e = .returned (.tuple #[Four.hd0, .slice none 0 0, .int .i64 (K : Int)]) ∧ Below w.heap.size w w' := by
  unfold QIs at hQ
  rw [if_neg (by simp)] at hQ
  exact Four.quote_no A n c xs w hx hnc hnm K hQ.1.symm hK
theorem four_ok (n : Nat) (xs : List UInt8) (proto shi slo dhi dlo frag : Nat) (rest : List UInt8) (hQ : QIs false n xs 0 proto shi slo dhi dlo frag rest) (A : Option Addr) (c : Nat) (w : World) (hx : IsB w w.heap.size A n xs) (hnc : n ≤ c) (hcm : c ≤ maxLen) (hnm : n ≤ 1099511627776) :
    Calls Try.prog 55 #[.slice A n c] w fun e w' => ∃ (tos id : Nat) (df mf : Bool) (ttl : Nat) (A1 : Option Addr) (n1 c1 : Nat) (A2 : Option Addr) (c2 : Nat), e = .returned (.tuple #[Four.hdV tos id df mf frag ttl proto false shi slo false dhi dlo A1 n1 c1, .slice A2 rest.length c2, .int .i64 0]) ∧ OwnB w' w.heap.size (.slice A2 rest.length c2) rest ∧ Below w.heap.size w w' := by
  unfold QIs at hQ
  rw [if_neg (by simp)] at hQ
  obtain ⟨hk, h⟩ := hQ
  obtain ⟨rfl, rfl, rfl, rfl, rfl, rfl, rfl⟩ := h rfl
  unfold Four.quoteK at hk
  split at hk
  · cases hk
  rename_i h1
  split at hk
  · cases hk
  rename_i h2
  split at hk
  · cases hk
  rename_i h3
  refine (Four.quote_ok A n c xs w hx hnc hcm hnm (by omega) (by omega) _ rfl (by omega) (by omega)).mono ?_
  rintro e w' ⟨A1, c1, A2, c2, rfl, i1, i2, i3, i4, i5⟩
  have hl : (xs.drop ((xs.getD 0 0).toNat % 16 * 4)).length = n - (xs.getD 0 0).toNat % 16 * 4 := by rw [List.length_drop, hx.1]
  rw [hl]
  exact ⟨_, _, _, _, _, A1, _, c1, A2, c2, rfl, i4, i5⟩
theorem six_fail (n : Nat) (xs : List UInt8) (K proto shi slo dhi dlo frag : Nat) (rest : List UInt8) (hQ : QIs true n xs K proto shi slo dhi dlo frag rest) (hK : K ≠ 0) (A : Option Addr) (c : Nat) (w : World) (hx : IsB w w.heap.size A n xs) (hnc : n ≤ c) (hcm : c ≤ maxLen) (hnm : n ≤ 1099511627776) :
    Calls Try.prog 53 #[.slice A n c] w fun e w' => e = .returned (.tuple #[Six.hd0, .slice none 0 0, .int .i64 (K : Int)]) ∧ Below w.heap.size w w' := by
  unfold QIs at hQ
  rw [if_pos rfl] at hQ
  obtain ⟨rfl, _⟩ := hQ
  exact (Six.quote_any A n c xs w hx hnc hcm hnm _ _ _ _ _ _ _ rfl rfl rfl rfl rfl rfl rfl).mono fun e w' ⟨h1, _, h3⟩ => ⟨h1 hK, h3⟩
theorem six_ok (n : Nat) (xs : List UInt8) (proto shi slo dhi dlo frag : Nat) (rest : List UInt8) (hQ : QIs true n xs 0 proto shi slo dhi dlo frag rest) (A : Option Addr) (c : Nat) (w : World) (hx : IsB w w.heap.size A n xs) (hnc : n ≤ c) (hcm : c ≤ maxLen) (hnm : n ≤ 1099511627776) :
    Calls Try.prog 53 #[.slice A n c] w fun e w' => ∃ (cls lab hop : Nat) (X : Option Addr) (xc : Nat) (es : List Six.Ext) (A2 : Option Addr) (c2 : Nat), e = .returned (.tuple #[Six.hdV cls lab hop true shi slo true dhi dlo X es.length xc proto, .slice A2 rest.length c2, .int .i64 0]) ∧ Six.OwnX w' w.heap.size X xc es ∧ beN (Six.partB es) 1 2 / 8 = frag ∧ OwnB w' w.heap.size (.slice A2 rest.length c2) rest ∧ Below w.heap.size w w' := by
  unfold QIs at hQ
  rw [if_pos rfl] at hQ
  obtain ⟨hk, h⟩ := hQ
  obtain ⟨acc, hR, rfl, rfl, rfl, rfl, rfl⟩ := h rfl
  refine (Six.quote_any A n c xs w hx hnc hcm hnm _ _ _ _ _ _ _ rfl rfl rfl rfl rfl rfl rfl).mono fun e w' ⟨_, h2, h3⟩ => ?_
  obtain ⟨acc', next', rest', hR', X, xc, es, A2, c2, rfl, hes, hX, hr⟩ := h2 hk.symm
  rw [hR] at hR'
  cases hR'
  exact ⟨_, _, _, X, xc, es, A2, c2, rfl, hX, by rw [Six.partB_eq, hes]; rfl, hr, h3⟩
set_option maxRecDepth 4000 in
set_option maxHeartbeats 4000000 in
theorem quoted_no (v6 : Bool) (ty cd wd : Int) (A : Option Addr) (n c : Nat) (w : World) (hE : errB v6 ty = false) :
    Calls Try.prog 51 #[.bool v6, .agg #[.int .i64 ty, .int .i64 cd, .int .u32 wd, .slice A n c]] w fun e w' => e = .returned (.tuple #[tu0, .int .i64 24]) ∧ Below w.heap.size w w' := by
  obtain ⟨w1, hw1⟩ : ∃ w1, (w.alloc (.cells #[.int .i64 ty, .int .i64 cd, .int .u32 wd, .slice A n c] 39)).alloc (tuC 0 false 0 0 false 0 0 0 0) = w1 := ⟨_, rfl⟩
  have hb1 : Below w.heap.size w w1 := hw1 ▸ ((Below.refl _ _).alloc (Nat.le_refl _) _).alloc (by simp) _
  have hgm : w1.heap[w.heap.size]? = some (.cells #[.int .i64 ty, .int .i64 cd, .int .u32 wd, .slice A n c] 39 (0, 0)) := by rw [← hw1]; exact blk_old _ (by simp) (blk_new _ _ _)
  have hgr : w1.heap[w.heap.size + 1]? = some (.cells #[.int .i64 0, .bool false, .int .u64 0, .int .u64 0, .bool false, .int .u64 0, .int .u64 0, .int .i64 0, .int .i64 0] 26 (0, 0)) := by
    have := blk_new (w.alloc (.cells #[.int .i64 ty, .int .i64 cd, .int .u32 wd, .slice A n c] 39)) 26 #[.int .i64 0, .bool false, .int .u64 0, .int .u64 0, .bool false, .int .u64 0, .int .u64 0, .int .i64 0, .int .i64 0]
    have hw1' := hw1
    unfold tuC at hw1'
    rw [hw1'] at this
    simpa using this
  unfold tuC at hw1
  have hcm1 := blk_cell hgm
  have hcg := blk_cell hgr
  have hfg := blk_free hgr
  replace hb1 := hide hb1
  replace hgm := hide hgm
  replace hgr := hide hgr
  replace hE := hide hE
  go_enter Try.func51, Try.ntmps51
  go_wp2_with fail
  refine (error_any v6 ty _).mono ?_
  rw [hE.out]
  rintro e w' ⟨rfl, rfl⟩
  clear hw1
  go_wp2_with fail
  refine bodyPost_ret (v := .tuple #[tu0, .int .i64 24]) (by simp [results, Try.results51, go_sem, hcg]) rfl ⟨rfl, ?_⟩
  iterate 9 refine Below.setCell ?_ (by simp) _
  exact hb1.out
set_option maxRecDepth 4000 in
set_option maxHeartbeats 4000000 in
theorem quoted_fail (v6 : Bool) (ty cd wd : Int) (A : Option Addr) (n c : Nat) (xs : List UInt8) (w : World) (hx : IsB w w.heap.size A n xs) (hnc : n ≤ c) (hcm : c ≤ maxLen) (hnm : n ≤ 1099511627776) (hE : errB v6 ty = true)
    (K proto shi slo dhi dlo frag : Nat) (rest : List UInt8) (hQ : QIs v6 n xs K proto shi slo dhi dlo frag rest) (hK : K ≠ 0) :
    Calls Try.prog 51 #[.bool v6, .agg #[.int .i64 ty, .int .i64 cd, .int .u32 wd, .slice A n c]] w fun e w' => e = .returned (.tuple #[tu0, .int .i64 (K : Int)]) ∧ Below w.heap.size w w' := by
  have hkb : ((K : Int) != 0) = true := by simp; omega
  replace hQ := hide hQ
  obtain ⟨w1, hw1⟩ : ∃ w1, (w.alloc (.cells #[.int .i64 ty, .int .i64 cd, .int .u32 wd, .slice A n c] 39)).alloc (tuC 0 false 0 0 false 0 0 0 0) = w1 := ⟨_, rfl⟩
  have hb1 : Below w.heap.size w w1 := hw1 ▸ ((Below.refl _ _).alloc (Nat.le_refl _) _).alloc (by simp) _
  have hz1 : w1.heap.size = w.heap.size + 1 + 1 := by rw [← hw1]; simp
  have hgm : w1.heap[w.heap.size]? = some (.cells #[.int .i64 ty, .int .i64 cd, .int .u32 wd, .slice A n c] 39 (0, 0)) := by rw [← hw1]; exact blk_old _ (by simp) (blk_new _ _ _)
  have hgr : w1.heap[w.heap.size + 1]? = some (.cells #[.int .i64 0, .bool false, .int .u64 0, .int .u64 0, .bool false, .int .u64 0, .int .u64 0, .int .i64 0, .int .i64 0] 26 (0, 0)) := by
    have := blk_new (w.alloc (.cells #[.int .i64 ty, .int .i64 cd, .int .u32 wd, .slice A n c] 39)) 26 #[.int .i64 0, .bool false, .int .u64 0, .int .u64 0, .bool false, .int .u64 0, .int .u64 0, .int .i64 0, .int .i64 0]
    have hw1' := hw1
    unfold tuC at hw1'
    rw [hw1'] at this
    simpa using this
  unfold tuC at hw1
  have hcm1 := blk_cell hgm
  have hx1 := hx.on hb1
  replace hx := hide hx
  replace hx1 := hide hx1
  replace hb1 := hide hb1
  replace hgm := hide hgm
  replace hgr := hide hgr
  replace hE := hide hE
  replace hz1 := hide hz1
  go_enter Try.func51, Try.ntmps51
  go_wp2_with fail
  refine (error_any v6 ty _).mono ?_
  rw [hE.out]
  rintro e w' ⟨rfl, rfl⟩
  clear hw1
  obtain ⟨w2, hw2⟩ : ∃ w2, w1.alloc (tuC 0 false 0 0 false 0 0 0 0) = w2 := ⟨_, rfl⟩
  have hb2 : Below w1.heap.size w1 w2 := hw2 ▸ (Below.refl _ _).alloc (Nat.le_refl _) _
  unfold tuC at hw2
  have hgt := hw2 ▸ blk_new w1 26 #[.int .i64 0, .bool false, .int .u64 0, .int .u64 0, .bool false, .int .u64 0, .int .u64 0, .int .i64 0, .int .i64 0]
  have hz2 : w2.heap.size = w1.heap.size + 1 := by rw [← hw2]; simp
  have hltm : w.heap.size < w1.heap.size := by have := hz1.out; omega
  have hltr : w.heap.size + 1 < w1.heap.size := by have := hz1.out; omega
  have hgm2 := blk_below hb2 hltm hgm.out
  have hgr2 := blk_below hb2 hltr hgr.out
  have hx2 := hx1.out.on hb2
  have hB2 := hb1.out.trans (hb2.mono (Nat.le_of_lt hltm))
  clear hcm1
  have hcm2 := blk_cell hgm2
  clear hb2
  replace hgt := hide hgt
  replace hz2 := hide hz2
  replace hgm2 := hide hgm2
  replace hgr2 := hide hgr2
  replace hx2 := hide hx2
  replace hB2 := hide hB2
  rcases v6 with _ | _
  · go_wp2_with fail
    refine (four_fail n xs K proto shi slo dhi dlo frag rest hQ.out hK A c _ hx2.out hnc hcm hnm).mono ?_
    rintro e w3 ⟨rfl, hb3⟩
    clear hw2 hcm2
    have hzz : w2.heap.size ≤ w3.heap.size := hb3.size
    have hb34 : Below w2.heap.size w2 (w3.alloc (Four.hdC 0 0 false false 0 0 0 false 0 0 false 0 0 none 0 0)) := hb3.alloc hb3.size _
    have hgr3 := blk_below hb34 (by have := hz2.out; omega) hgr2.out
    have hB3 := hB2.out.trans (hb34.mono (by have := hz2.out; omega))
    unfold Four.hdC at hgr3 hB3
    have hcg := blk_cell hgr3
    have hfg := blk_free hgr3
    clear hb3 hb34
    replace hgr3 := hide hgr3
    replace hB3 := hide hB3
    go_wp2_with fail
    refine bodyPost_ret (v := .tuple #[tu0, .int .i64 (K : Int)]) (by simp [results, Try.results51, go_sem, hcg]) rfl ⟨rfl, ?_⟩
    iterate 9 refine Below.setCell ?_ (by simp) _
    exact hB3.out
  · go_wp2_with fail
    refine (six_fail n xs K proto shi slo dhi dlo frag rest hQ.out hK A c _ hx2.out hnc hcm hnm).mono ?_
    rintro e w3 ⟨rfl, hb3⟩
    clear hw2 hcm2
    have hzz : w2.heap.size ≤ w3.heap.size := hb3.size
    have hb34 : Below w2.heap.size w2 (w3.alloc (Six.hdC 0 0 0 false 0 0 false 0 0 none 0 0 0)) := hb3.alloc hb3.size _
    have hgr3 := blk_below hb34 (by have := hz2.out; omega) hgr2.out
    have hB3 := hB2.out.trans (hb34.mono (by have := hz2.out; omega))
    unfold Six.hdC at hgr3 hB3
    have hcg := blk_cell hgr3
    have hfg := blk_free hgr3
    clear hb3 hb34
    replace hgr3 := hide hgr3
    replace hB3 := hide hB3
    go_wp2_with fail
    refine bodyPost_ret (v := .tuple #[tu0, .int .i64 (K : Int)]) (by simp [results, Try.results51, go_sem, hcg]) rfl ⟨rfl, ?_⟩
    iterate 9 refine Below.setCell ?_ (by simp) _
    exact hB3.out
/-- How it ends: why there is no flow, or the flow. -/
def FlowEnd (F : Nat) (v6 : Bool) (proto shi slo dhi dlo : Nat) (rest : List UInt8) (w w' : World) (e : Ending) : Prop :=
  (F ≠ 0 → e = .returned (.tuple #[tu0, .int .i64 (F : Int)])) ∧ (F = 0 → e = .returned (.tuple #[tuV proto v6 shi slo v6 dhi dlo (beN rest 0 2 : Nat) (beN rest 2 2 : Nat), .int .i64 0])) ∧ Below w.heap.size w w'
/-- Why what is quoted is no flow; 0: it is one. -/
def flowK (frag proto len : Nat) : Nat := if 0 < frag then 21 else if proto ≠ 6 ∧ proto ≠ 17 then 14 else if len < 4 then 2 else 0
set_option maxRecDepth 4000 in
set_option maxHeartbeats 8000000 in
theorem quoted_ok (v6 : Bool) (ty cd wd : Int) (A : Option Addr) (n c : Nat) (xs : List UInt8) (w : World) (hx : IsB w w.heap.size A n xs) (hnc : n ≤ c) (hcm : c ≤ maxLen) (hnm : n ≤ 1099511627776) (hE : errB v6 ty = true)
    (proto shi slo dhi dlo frag : Nat) (rest : List UInt8) (hQ : QIs v6 n xs 0 proto shi slo dhi dlo frag rest) (hrl : rest.length ≤ maxLen) (F : Nat) (hF : flowK frag proto rest.length = F) :
    Calls Try.prog 51 #[.bool v6, .agg #[.int .i64 ty, .int .i64 cd, .int .u32 wd, .slice A n c]] w fun e w' => FlowEnd F v6 proto shi slo dhi dlo rest w w' e := by
  replace hQ := hide hQ
  replace hF := hide hF
  obtain ⟨w1, hw1⟩ : ∃ w1, (w.alloc (.cells #[.int .i64 ty, .int .i64 cd, .int .u32 wd, .slice A n c] 39)).alloc (tuC 0 false 0 0 false 0 0 0 0) = w1 := ⟨_, rfl⟩
  have hb1 : Below w.heap.size w w1 := hw1 ▸ ((Below.refl _ _).alloc (Nat.le_refl _) _).alloc (by simp) _
  have hz1 : w1.heap.size = w.heap.size + 1 + 1 := by rw [← hw1]; simp
  have hgm : w1.heap[w.heap.size]? = some (.cells #[.int .i64 ty, .int .i64 cd, .int .u32 wd, .slice A n c] 39 (0, 0)) := by rw [← hw1]; exact blk_old _ (by simp) (blk_new _ _ _)
  have hgr : w1.heap[w.heap.size + 1]? = some (.cells #[.int .i64 0, .bool false, .int .u64 0, .int .u64 0, .bool false, .int .u64 0, .int .u64 0, .int .i64 0, .int .i64 0] 26 (0, 0)) := by
    have := blk_new (w.alloc (.cells #[.int .i64 ty, .int .i64 cd, .int .u32 wd, .slice A n c] 39)) 26 #[.int .i64 0, .bool false, .int .u64 0, .int .u64 0, .bool false, .int .u64 0, .int .u64 0, .int .i64 0, .int .i64 0]
    have hw1' := hw1
    unfold tuC at hw1'
    rw [hw1'] at this
    simpa using this
  unfold tuC at hw1
  have hcm1 := blk_cell hgm
  have hx1 := hx.on hb1
  replace hx := hide hx
  replace hx1 := hide hx1
  replace hb1 := hide hb1
  replace hgm := hide hgm
  replace hgr := hide hgr
  replace hE := hide hE
  replace hz1 := hide hz1
  go_enter Try.func51, Try.ntmps51
  go_wp2_with fail
  refine (error_any v6 ty _).mono ?_
  rw [hE.out]
  rintro e w' ⟨rfl, rfl⟩
  clear hw1
  obtain ⟨w2, hw2⟩ : ∃ w2, w1.alloc (tuC 0 false 0 0 false 0 0 0 0) = w2 := ⟨_, rfl⟩
  have hb2 : Below w1.heap.size w1 w2 := hw2 ▸ (Below.refl _ _).alloc (Nat.le_refl _) _
  unfold tuC at hw2
  have hgt := hw2 ▸ blk_new w1 26 #[.int .i64 0, .bool false, .int .u64 0, .int .u64 0, .bool false, .int .u64 0, .int .u64 0, .int .i64 0, .int .i64 0]
  have hz2 : w2.heap.size = w1.heap.size + 1 := by rw [← hw2]; simp
  have hltm : w.heap.size < w1.heap.size := by have := hz1.out; omega
  have hltr : w.heap.size + 1 < w1.heap.size := by have := hz1.out; omega
  have hgm2 := blk_below hb2 hltm hgm.out
  have hgr2 := blk_below hb2 hltr hgr.out
  have hx2 := hx1.out.on hb2
  have hB2 := hb1.out.trans (hb2.mono (Nat.le_of_lt hltm))
  clear hcm1
  have hcm2 := blk_cell hgm2
  clear hb2
  replace hgt := hide hgt
  replace hz2 := hide hz2
  replace hgm2 := hide hgm2
  replace hgr2 := hide hgr2
  replace hx2 := hide hx2
  replace hB2 := hide hB2
  go_upto_if 21 with fail
  go_cut [7, 8] (fun s7 s8 wx => ∃ (Ar : Option Addr) (cr : Nat), s7 = .slice Ar rest.length cr ∧ s8 = .int .i64 (frag : Int) ∧ OwnB wx w2.heap.size (.slice Ar rest.length cr) rest ∧ wx.heap[w1.heap.size]? = some (.cells #[.int .i64 proto, .bool v6, .int .u64 shi, .int .u64 slo, .bool v6, .int .u64 dhi, .int .u64 dlo, .int .i64 0, .int .i64 0] 26 (0, 0)) ∧ Below w1.heap.size w2 wx)
  case first =>
    rcases v6 with _ | _
    · go_wp2_with fail
      refine (four_ok n xs proto shi slo dhi dlo frag rest hQ.out A c _ hx2.out hnc hcm hnm).mono ?_
      rintro e w3 ⟨tos, id, df, mf, ttl, A1, n1, c1, A2, c2, rfl, hr, hb3⟩
      clear hw2 hcm2
      obtain ⟨w4, hw4⟩ : ∃ w4, w3.alloc (Four.hdC tos id df mf frag ttl proto false shi slo false dhi dlo A1 n1 c1) = w4 := ⟨_, rfl⟩
      have hb34 : Below w3.heap.size w3 w4 := hw4 ▸ (Below.refl _ _).alloc (Nat.le_refl _) _
      have hlt4 : w3.heap.size < w4.heap.size := by rw [← hw4]; simp
      have hb24 : Below w2.heap.size w2 w4 := hb3.trans (hb34.mono hb3.size)
      unfold Four.hdC at hw4
      have hgh := hw4 ▸ blk_new w3 86 #[.int .i64 tos, .int .i64 id, .bool df, .bool mf, .int .i64 frag, .int .i64 ttl, .int .i64 proto, .bool false, .int .u64 shi, .int .u64 slo, .bool false, .int .u64 dhi, .int .u64 dlo, .slice A1 n1 c1]
      have hr4 := hr.below hb34
      have hlt12 : w1.heap.size < w2.heap.size := by have := hz2.out; omega
      have hgt4 := blk_below hb24 hlt12 hgt.out
      have hzz3 : w1.heap.size + 1 ≤ w3.heap.size := by have := hb3.size; have := hz2.out; omega
      clear hr hb3 hb34
      replace hgh := hide hgh
      replace hr4 := hide hr4
      replace hgt4 := hide hgt4
      replace hb24 := hide hb24
      go_wp2_with fail
      clear hw4
      have hgt4' := hgt4.out
      obtain ⟨wd, hwd⟩ : ∃ wd, w4.drew = wd := ⟨_, rfl⟩
      have hb4d : Below w4.heap.size w4 wd := hwd ▸ (Below.refl _ _).drew
      have hgne : w3.heap.size ≠ w1.heap.size := by have := hzz3; omega
      have hghd := blk_below hb4d hlt4 hgh.out
      have hltd : w3.heap.size < wd.heap.size := Nat.lt_of_lt_of_le hlt4 hb4d.size
      have hcl : ∀ (l : Grown w1.heap.size wd) (o : Nat), l.w.cell? ⟨w3.heap.size, o, none⟩ = _ := fun l o => blk_cell (grown_blk l.hg hltd hgne hghd) o
      refine wp_region_F (GrownR w1.heap.size) (by as_aux_lemma => kernel_rfl) ?_
      rw [hwd]
      clear hwd
      refine wpG_seg w1.heap.size 0 10 (fuel := 3) (by as_aux_lemma => kernel_rfl) (fun d _ _ _ _ h => by cases d <;> exact h) (by as_aux_lemma => kernel_rfl) (by as_aux_lemma => kernel_rfl) ?_
      simp only [List.drop_zero, List.take_succ_cons, List.take_zero]
      iterate 10 (refine wpQG_step (fun K hK => ?_); go_simp; refine hK _ ?_; clear hK K)
      refine wpQF_nil ?_
      clear hcl
      have hgt5 := blk_below hb4d (Nat.lt_of_lt_of_le hlt12 hb24.out.size) hgt4'
      have hr5 := hr4.out.below hb4d
      have hb25 := hb24.out.trans (hb4d.mono hb24.out.size)
      obtain ⟨w6, e6, hg6, hgr6⟩ := set9 hgt5 (.int .i64 proto) (.bool false) (.int .u64 shi) (.int .u64 slo) (.bool false) (.int .u64 dhi) (.int .u64 dlo) (.int .i64 0) (.int .i64 0)
      have hcg5 := blk_cell hgt5
      have hfg5 := blk_free hgt5
      have hr6 := OwnB.kept hr5 hgr6 (own_not hr5 hlt12)
      have hb26 := (hb25.mono (Nat.le_of_lt hlt12)).trans (grown_below hgr6 (Nat.le_trans (Nat.le_of_lt hlt12) hb25.size) (Nat.le_refl _))
      clear hr5 hb25 hgt5
      replace hr6 := hide hr6
      replace hb26 := hide hb26
      replace hg6 := hide hg6
      replace hgr6 := hide hgr6
      refine wpF_step 10 (fuel := 2) rfl (by as_aux_lemma => kernel_rfl) (fun K hK => ?_)
      go_simp
      refine hK _ _ hgr6.out ?_
      clear hK K e6 hcg5 hfg5
      refine wpF_step 11 (fuel := 1) rfl (by as_aux_lemma => kernel_rfl) (fun K hK => ?_)
      go_simp
      refine hK _ _ (grown_refl _ _) ?_
      clear hK K
      refine wpF_step 12 (fuel := 0) rfl (by as_aux_lemma => kernel_rfl) (fun K hK => ?_)
      go_simp
      refine hK _ _ (grown_refl _ _) ?_
      clear hK K
      refine wpF_done (by as_aux_lemma => kernel_rfl) ?_ 0
      go_wp2_with fail
      go_meet
      exact ⟨A2, c2, rfl, rfl, hr6.out, hg6.out, hb26.out⟩
    · go_wp2_with fail
      refine (six_ok n xs proto shi slo dhi dlo frag rest hQ.out A c _ hx2.out hnc hcm hnm).mono ?_
      rintro e w3 ⟨cls, lab, hop, X, xc, es, A2, c2, rfl, hX, hfr, hr, hb3⟩
      clear hw2 hcm2
      obtain ⟨w4, hw4⟩ : ∃ w4, w3.alloc (Six.hdC cls lab hop true shi slo true dhi dlo X es.length xc proto) = w4 := ⟨_, rfl⟩
      have hb34 : Below w3.heap.size w3 w4 := hw4 ▸ (Below.refl _ _).alloc (Nat.le_refl _) _
      have hlt4 : w3.heap.size < w4.heap.size := by rw [← hw4]; simp
      have hb24 : Below w2.heap.size w2 w4 := hb3.trans (hb34.mono hb3.size)
      unfold Six.hdC at hw4
      have hgh := hw4 ▸ blk_new w3 99 #[.int .i64 cls, .int .i64 lab, .int .i64 hop, .bool true, .int .u64 shi, .int .u64 slo, .bool true, .int .u64 dhi, .int .u64 dlo, .slice X es.length xc, .int .i64 proto]
      have hr4 := hr.below hb34
      have hX4 := hX.below hb34
      have hlt12 : w1.heap.size < w2.heap.size := by have := hz2.out; omega
      have hgt4 := blk_below hb24 hlt12 hgt.out
      have hzz3 : w1.heap.size + 1 ≤ w3.heap.size := by have := hb3.size; have := hz2.out; omega
      clear hr hb3 hb34 hX
      replace hgh := hide hgh
      replace hr4 := hide hr4
      replace hX4 := hide hX4
      replace hgt4 := hide hgt4
      replace hb24 := hide hb24
      replace hfr := hide hfr
      go_wp2_with fail
      clear hw4
      have hgt4' := hgt4.out
      obtain ⟨wd, hwd⟩ : ∃ wd, w4.drew = wd := ⟨_, rfl⟩
      have hb4d : Below w4.heap.size w4 wd := hwd ▸ (Below.refl _ _).drew
      have hgne : w3.heap.size ≠ w1.heap.size := by have := hzz3; omega
      have hghd := blk_below hb4d hlt4 hgh.out
      have hltd : w3.heap.size < wd.heap.size := Nat.lt_of_lt_of_le hlt4 hb4d.size
      have hcl : ∀ (l : Grown w1.heap.size wd) (o : Nat), l.w.cell? ⟨w3.heap.size, o, none⟩ = _ := fun l o => blk_cell (grown_blk l.hg hltd hgne hghd) o
      refine wp_region_F (GrownR w1.heap.size) (by as_aux_lemma => kernel_rfl) ?_
      rw [hwd]
      clear hwd
      refine wpG_seg w1.heap.size 0 9 (fuel := 4) (by as_aux_lemma => kernel_rfl) (fun d _ _ _ _ h => by cases d <;> exact h) (by as_aux_lemma => kernel_rfl) (by as_aux_lemma => kernel_rfl) ?_
      simp only [List.drop_zero, List.take_succ_cons, List.take_zero]
      iterate 9 (refine wpQG_step (fun K hK => ?_); go_simp; refine hK _ ?_; clear hK K)
      refine wpQF_nil ?_
      clear hcl
      refine wpF_step 9 (fuel := 3) rfl (by as_aux_lemma => kernel_rfl) (fun K hK => ?_)
      go_simp
      go_at_call 54
      have hXd := (hX4.out.below hb4d).isX
      refine (Six.frag_any cls lab hop true shi slo true dhi dlo X es.length xc proto es _ hXd.1 (by omega)).mono ?_
      rw [hfr.out]
      rintro e w5 ⟨rfl, hb5⟩
      refine hK _ _ (grown_of_below hb5) ?_
      clear hK K hXd
      have hb45 := hb4d.trans (hb5.mono hb4d.size)
      have hgt5 := blk_below hb45 (Nat.lt_of_lt_of_le hlt12 hb24.out.size) hgt4'
      have hr5 := hr4.out.below hb45
      have hb25 := hb24.out.trans (hb45.mono hb24.out.size)
      clear hb5 hb45
      obtain ⟨w6, e6, hg6, hgr6⟩ := set9 hgt5 (.int .i64 proto) (.bool true) (.int .u64 shi) (.int .u64 slo) (.bool true) (.int .u64 dhi) (.int .u64 dlo) (.int .i64 0) (.int .i64 0)
      have hcg5 := blk_cell hgt5
      have hfg5 := blk_free hgt5
      have hr6 := OwnB.kept hr5 hgr6 (own_not hr5 hlt12)
      have hb26 := (hb25.mono (Nat.le_of_lt hlt12)).trans (grown_below hgr6 (Nat.le_trans (Nat.le_of_lt hlt12) hb25.size) (Nat.le_refl _))
      clear hr5 hb25 hgt5
      replace hr6 := hide hr6
      replace hb26 := hide hb26
      replace hg6 := hide hg6
      replace hgr6 := hide hgr6
      refine wpF_step 10 (fuel := 2) rfl (by as_aux_lemma => kernel_rfl) (fun K hK => ?_)
      go_simp
      refine hK _ _ hgr6.out ?_
      clear hK K e6 hcg5 hfg5
      refine wpF_step 11 (fuel := 1) rfl (by as_aux_lemma => kernel_rfl) (fun K hK => ?_)
      go_simp
      refine hK _ _ (grown_refl _ _) ?_
      clear hK K
      refine wpF_step 12 (fuel := 0) rfl (by as_aux_lemma => kernel_rfl) (fun K hK => ?_)
      go_simp
      refine hK _ _ (grown_refl _ _) ?_
      clear hK K
      refine wpF_done (by as_aux_lemma => kernel_rfl) ?_ 0
      go_wp2_with fail
      go_meet
      exact ⟨A2, c2, rfl, rfl, hr6.out, hg6.out, hb26.out⟩
  case rest =>
  obtain ⟨Ar, cr, rfl, rfl, hr, hgt6, hb6⟩ := hcut
  have hlt12 : w1.heap.size < w2.heap.size := by have := hz2.out; omega
  have hgrc := blk_below hb6 hltr hgr2.out
  have hBc := hB2.out.trans (hb6.mono (Nat.le_of_lt hltm))
  have hcg := blk_cell hgrc
  have hfg := blk_free hgrc
  have hct := blk_cell hgt6
  have hft := blk_free hgt6
  have hzc : w2.heap.size ≤ wc.heap.size := hb6.size
  clear hw2 hcm2
  replace hr := hide hr
  replace hgrc := hide hgrc
  replace hBc := hide hBc
  replace hgt6 := hide hgt6
  replace hb6 := hide hb6
  have hF' := hF.out
  unfold flowK at hF'
  by_cases h1 : 0 < frag
  · rw [if_pos h1] at hF'
    subst hF'
    have t1 : (0 : Int) < (frag : Int) := by omega
    go_wp2_with fail
    refine bodyPost_ret (v := .tuple #[tu0, .int .i64 21]) (by simp [results, Try.results51, go_sem, hcg]) rfl ⟨fun _ => rfl, (fun h => by cases h), ?_⟩
    iterate 9 refine Below.setCell ?_ (by simp) _
    exact hBc.out
  rw [if_neg h1] at hF'
  have t1 : ¬ (0 : Int) < (frag : Int) := by omega
  by_cases h2 : proto ≠ 6 ∧ proto ≠ 17
  · rw [if_pos h2] at hF'
    subst hF'
    have t2 : ((proto : Int) != 6) = true := by simp; omega
    have t3 : ((proto : Int) != 17) = true := by simp; omega
    clear h2
    go_wp2_with fail
    refine bodyPost_ret (v := .tuple #[tu0, .int .i64 14]) (by simp [results, Try.results51, go_sem, hcg]) rfl ⟨fun _ => rfl, (fun h => by cases h), ?_⟩
    iterate 9 refine Below.setCell ?_ (by simp) _
    exact hBc.out
  rw [if_neg h2] at hF'
  by_cases h3 : rest.length < 4
  · rw [if_pos h3] at hF'
    subst hF'
    have t4 : (rest.length : Int) < 4 := by omega
    by_cases h6 : proto = 6
    · have t2 : ((proto : Int) != 6) = false := by simp; omega
      clear h2
      replace h6 := hide h6
      go_wp2_with fail
      refine bodyPost_ret (v := .tuple #[tu0, .int .i64 2]) (by simp [results, Try.results51, go_sem, hcg]) rfl ⟨fun _ => rfl, (fun h => by cases h), ?_⟩
      iterate 9 refine Below.setCell ?_ (by simp) _
      exact hBc.out
    · have t2 : ((proto : Int) != 6) = true := by simp; omega
      have t3 : ((proto : Int) != 17) = false := by simp; omega
      clear h2
      go_wp2_with fail
      refine bodyPost_ret (v := .tuple #[tu0, .int .i64 2]) (by simp [results, Try.results51, go_sem, hcg]) rfl ⟨fun _ => rfl, (fun h => by cases h), ?_⟩
      iterate 9 refine Below.setCell ?_ (by simp) _
      exact hBc.out
  rw [if_neg h3] at hF'
  subst hF'
  have t4 : ¬ (rest.length : Int) < 4 := by omega
  have hi := hr.out.reads.2.2.2
  obtain ⟨p1, hp1⟩ : ∃ p1, beN rest 0 2 = p1 := ⟨_, rfl⟩
  obtain ⟨p2, hp2⟩ : ∃ p2, beN rest 2 2 = p2 := ⟨_, rfl⟩
  have hp1l : p1 < 65536 := by rw [← hp1]; exact beN_lt rest 0 2
  have hp2l : p2 < 65536 := by rw [← hp2]; exact beN_lt rest 2 2
  obtain ⟨w7, e7, hg7, hgr7⟩ : ∃ w7, (wc.setCell ⟨w1.heap.size, 7, none⟩ (.int .i64 (p1 : Int))).setCell ⟨w1.heap.size, 8, none⟩ (.int .i64 (p2 : Int)) = w7 ∧ w7.heap[w1.heap.size]? = some (.cells #[.int .i64 proto, .bool v6, .int .u64 shi, .int .u64 slo, .bool v6, .int .u64 dhi, .int .u64 dlo, .int .i64 p1, .int .i64 p2] 26 (0, 0)) ∧ wc.grownBy w7 (some w1.heap.size) := by
    refine ⟨_, rfl, ?_, ?_⟩
    · simpa using blk_set (blk_set hgt6.out 7 (.int .i64 p1)) 8 (.int .i64 p2)
    · iterate 2 refine grown_set ?_ rfl _
      exact grown_refl _ _
  have hgr7' := grown_blk hgr7 (Nat.lt_of_lt_of_le (Nat.lt_trans hltr hlt12) hzc) (by omega) hgrc.out
  have hB7 := hBc.out.trans (grown_below hgr7 hBc.out.size (Nat.le_of_lt hltm))
  have hcg7 := blk_cell hgr7'
  have hfg7 := blk_free hgr7'
  have hct7 := blk_cell hg7
  obtain ⟨w8, e8, hg8, hgr8⟩ := set9 hgr7' (.int .i64 proto) (.bool v6) (.int .u64 shi) (.int .u64 slo) (.bool v6) (.int .u64 dhi) (.int .u64 dlo) (.int .i64 p1) (.int .i64 p2)
  have hB8 := hB7.trans (grown_below hgr8 hB7.size (by omega))
  have hcg8 := blk_cell hg8
  clear hgr7 hgr8
  replace hi := hide hi
  replace hp1 := hide hp1
  replace hp2 := hide hp2
  replace hg7 := hide hg7
  replace hgr7' := hide hgr7'
  replace hg8 := hide hg8
  replace hB7 := hide hB7
  replace hB8 := hide hB8
  by_cases h6 : proto = 6
  · have t2 : ((proto : Int) != 6) = false := by simp; omega
    replace h6 := hide h6
    clear h2
    go_wp2_with fail
    refine (Octet.at_lit _ _ 0 2 rfl rfl _ _ _ rest _ hi.out hrl (by omega) (by omega)).mono ?_
    rintro e w' ⟨rfl, rfl⟩
    rw [hp1.out]
    go_wp2_with fail
    refine (Octet.at_lit _ _ 2 2 rfl rfl _ _ _ rest _ hi.out hrl (by omega) (by omega)).mono ?_
    rintro e w' ⟨rfl, rfl⟩
    rw [hp2.out]
    go_wp2_with fail
    exact bodyPost_ret (v := .tuple #[tuV proto v6 shi slo v6 dhi dlo p1 p2, .int .i64 0]) (by simp [results, Try.results51, go_sem, hcg8]) rfl ⟨fun h => absurd rfl h, fun _ => by rw [hp1.out, hp2.out], hB8.out⟩
  · have t2 : ((proto : Int) != 6) = true := by simp; omega
    have t3 : ((proto : Int) != 17) = false := by simp; omega
    clear h2
    go_wp2_with fail
    refine (Octet.at_lit _ _ 0 2 rfl rfl _ _ _ rest _ hi.out hrl (by omega) (by omega)).mono ?_
    rintro e w' ⟨rfl, rfl⟩
    rw [hp1.out]
    go_wp2_with fail
    refine (Octet.at_lit _ _ 2 2 rfl rfl _ _ _ rest _ hi.out hrl (by omega) (by omega)).mono ?_
    rintro e w' ⟨rfl, rfl⟩
    rw [hp2.out]
    go_wp2_with fail
    exact bodyPost_ret (v := .tuple #[tuV proto v6 shi slo v6 dhi dlo p1 p2, .int .i64 0]) (by simp [results, Try.results51, go_sem, hcg8]) rfl ⟨fun h => absurd rfl h, fun _ => by rw [hp1.out, hp2.out], hB8.out⟩
end Icmp
end Go.Proofs.Ytniieckjooahfaa
