/- six.chain by contract: a header and those that extend it. Conditions: slices of bytes that read as lists. -/
import Derived.Test.YtfmmmjaficbchaaQNatFlows6
import Derived.Test.YtfmmmjaficbchaaQNatFlows5
import Derived.Test.YtfmmmjaficbchaaQNatFlows3
import Derived.Deep.CutBlock
namespace Go.Proofs.Ytfmmmjaficbchaa
open Go.RowKit Go.ChangeShapes Go.WideShapes Go.ChangeAt Go.Deep
theorem v6_any (hi lo : Int) (w : World) :
    Calls Try.prog 78 #[.int .u64 hi, .int .u64 lo] w fun e w' => e = .returned (.agg #[.bool true, .int .u64 hi, .int .u64 lo]) ∧ Below w.heap.size w w' := by
  go_enter Try.func78, Try.ntmps78
  go_wp2
  exact bodyPost_ret (v := .agg #[.bool true, .int .u64 hi, .int .u64 lo]) (by simp [results, Try.results78, go_sem]) rfl ⟨rfl, (Below.refl _ _).alloc (Nat.le_refl _) _⟩
theorem u64_wrap63 (n : Int) (h0 : 0 ≤ n) (h1 : n < 2 ^ 63) : IntKind.u64.wrap n = n := wrapsu64 n h0 (by omega)
theorem u64_and255 (x : Int) (h0 : 0 ≤ x) (h1 : x < 4294967296) : bits .and .u64 x 255 = x % 256 := bits_mask .u64 63 (by decide) u64_wrap63 8 (by decide) x h0 (by omega)
theorem u64_and20 (x : Int) (h0 : 0 ≤ x) (h1 : x < 4294967296) : bits .and .u64 x 1048575 = x % 1048576 := bits_mask .u64 63 (by decide) u64_wrap63 20 (by decide) x h0 (by omega)
theorem set11 {w : World} {g : Nat} {t : TypeId} {a0 a1 a2 a3 a4 a5 a6 a7 a8 a9 a10 : Value} (h : w.heap[g]? = some (.cells #[a0, a1, a2, a3, a4, a5, a6, a7, a8, a9, a10] t (0, 0))) (v0 v1 v2 v3 v4 v5 v6 v7 v8 v9 v10 : Value) :
    ∃ w', (((((((((((w.setCell ⟨g, 0, none⟩ v0).setCell ⟨g, 1, none⟩ v1).setCell ⟨g, 2, none⟩ v2).setCell ⟨g, 3, none⟩ v3).setCell ⟨g, 4, none⟩ v4).setCell ⟨g, 5, none⟩ v5).setCell ⟨g, 6, none⟩ v6).setCell ⟨g, 7, none⟩ v7).setCell ⟨g, 8, none⟩ v8).setCell ⟨g, 9, none⟩ v9).setCell ⟨g, 10, none⟩ v10) = w' ∧ w'.heap[g]? = some (.cells #[v0, v1, v2, v3, v4, v5, v6, v7, v8, v9, v10] t (0, 0)) ∧ w.grownBy w' (some g) := by
  refine ⟨_, rfl, ?_, ?_⟩
  · simpa using (blk_set (blk_set (blk_set (blk_set (blk_set (blk_set (blk_set (blk_set (blk_set (blk_set (blk_set h 0 v0) 1 v1) 2 v2) 3 v3) 4 v4) 5 v5) 6 v6) 7 v7) 8 v8) 9 v9) 10 v10)
  · iterate 11 refine grown_set ?_ rfl _
    exact grown_refl _ _
theorem own_kept {w w' : World} {base : Nat} {v : Value} {e : TypeId} {size n : Nat} {xs : List Value} {row : Option Nat} (h : w.ownsRow base e size v n xs) (hg : w.grownBy w' row) (hne : v.ownBlock = none ∨ v.ownBlock ≠ row) : w'.ownsRow base e size v n xs := World.ownsRow.kept h hg hne
theorem grown_none {w w' : World} (hb : Below w.heap.size w w') : w.grownBy w' none := ⟨hb.os, hb.tape, hb.output, hb.size, fun k hk _ => hb.block k hk⟩
theorem own_below {w w' : World} {base : Nat} {v : Value} {e : TypeId} {size n : Nat} {xs : List Value} (h : w.ownsRow base e size v n xs) (hb : Below w.heap.size w w') : w'.ownsRow base e size v n xs :=
  own_kept h (grown_none hb) (by cases v.ownBlock <;> simp)
/-- Rows of different types lie in different blocks. -/
theorem own_apart {w : World} {base base' : Nat} {v u : Value} {e e' : TypeId} {size n size' n' : Nat} {xs xs' : List Value} (h : w.ownsRow base e size v n xs) (h' : w.ownsRow base' e' size' u n' xs') (hne : e ≠ e') : v.ownBlock = none ∨ v.ownBlock ≠ u.ownBlock := by
  rcases h.2 with ⟨rfl, _⟩ | ⟨g, cap, cur, rfl, hg, hh, _⟩
  · exact .inl rfl
  · rcases h'.2 with ⟨rfl, _⟩ | ⟨g', cap', cur', rfl, hg', hh', _⟩
    · exact .inr (by intro e; cases e)
    · right
      intro e
      have : g = g' := by simpa [Value.ownBlock] using e
      subst this
      rw [hh] at hh'
      simp at hh'
      exact hne hh'.2
theorem own_not {w : World} {base : Nat} {v : Value} {e : TypeId} {size n : Nat} {xs : List Value} (h : w.ownsRow base e size v n xs) {g : Nat} (hg : g < base) : v.ownBlock = none ∨ v.ownBlock ≠ some g := by
  rcases hob : v.ownBlock with _ | k
  · exact .inl rfl
  · right
    intro e
    have h1 := (World.ownsRow.lt h k hob).1
    cases e
    omega
namespace Six
/-! ### Plain -/
def Ext.pe (e : Ext) : Int × List UInt8 := (e.k, e.xs)
def partP (acc : List (Int × List UInt8)) : List UInt8 := match acc.find? fun p => decide (p.1 = 44 ∧ p.2.length = 7) with | some p => p.2 | none => []
theorem partB_eq (es : List Ext) : partB es = partP (es.map Ext.pe) := by
  unfold partB partP
  rw [List.find?_map]
  have e : ((fun p : Int × List UInt8 => decide (p.1 = 44 ∧ p.2.length = 7)) ∘ Ext.pe) = Ext.isPart := by
    funext e
    exact decide_eq_decide.mpr Iff.rfl
  rw [e]
  rcases es.find? Ext.isPart with _ | e <;> rfl
def fragP (acc : List (Int × List UInt8)) : Nat := beN (partP acc) 1 2 / 8
/-- How long the next one is. -/
def sizeP (next : Nat) (rs : List UInt8) : Nat := if next = 44 then 8 else 8 + 8 * (rs.getD 1 0).toNat
/-- The headers that extend one. -/
def chainF : Nat → Nat → List UInt8 → List (Int × List UInt8) → Option (List (Int × List UInt8) × Nat × List UInt8)
  | 0, _, _, _ => none
  | f + 1, next, rs, acc =>
    if isB (next : Int) = false then some (acc, next, rs)
    else if acc.length = 8 ∨ rs.length < 8 then none
    else if rs.length < sizeP next rs ∨ (next = 0 ∧ 0 < acc.length) then none
    else if 0 < fragP (acc ++ [((next : Int), (rs.take (sizeP next rs)).drop 1)]) then
      (if isB ((rs.getD 0 0).toNat : Int) = true then none else some (acc ++ [((next : Int), (rs.take (sizeP next rs)).drop 1)], (rs.getD 0 0).toNat, rs.drop (sizeP next rs)))
    else chainF f (rs.getD 0 0).toNat (rs.drop (sizeP next rs)) (acc ++ [((next : Int), (rs.take (sizeP next rs)).drop 1)])
/-! ### The walk -/
/-- No header. -/
abbrev hd0 : Value := hdV 0 0 0 false 0 0 false 0 0 none 0 0 0
/-- The header that is built, and what extends it so far. -/
def ChW (w1 : World) (base g : Nat) (cls lab hop shi slo dhi dlo : Nat) (acc : List (Int × List UInt8)) (wr : World) : Prop :=
  ∃ (X : Option Addr) (xc : Nat) (es : List Ext), es.map Ext.pe = acc ∧ wr.ownsRow base 121 2 (.slice X es.length xc) es.length (cells es) ∧ (∀ e ∈ es, OwnB wr base (.slice e.A e.xs.length e.c) e.xs) ∧
    wr.heap[g]? = some (.cells #[.int .i64 cls, .int .i64 lab, .int .i64 hop, .bool true, .int .u64 shi, .int .u64 slo, .bool true, .int .u64 dhi, .int .u64 dlo, .slice X es.length xc, .int .i64 0] 98 (0, 0)) ∧ Below g w1 wr
theorem info_ext : (Try.prog.info? 121).map (fun i => (i.zero, i.size, i.bytes)) = some (some (.agg #[.int .i64 0, .slice none 0 0]), 2, 32) := by kernel_rfl
/-- The headers that extend one lie in rows of the call's own. -/
def OwnX (w : World) (base : Nat) (X : Option Addr) (xc : Nat) (es : List Ext) : Prop :=
  w.ownsRow base 121 2 (.slice X es.length xc) es.length (cells es) ∧ ∀ e ∈ es, OwnB w base (.slice e.A e.xs.length e.c) e.xs
theorem own_weaken {w : World} {base base' : Nat} {v : Value} {e : TypeId} {size n : Nat} {xs : List Value} (h : w.ownsRow base e size v n xs) (hb : base' ≤ base) : w.ownsRow base' e size v n xs :=
  ⟨h.1, h.2.imp id fun ⟨g, cap, cur, h1, h2, h3⟩ => ⟨g, cap, cur, h1, Nat.le_trans hb h2, h3⟩⟩
section
variable {w w' : World} {base : Nat} {X : Option Addr} {xc : Nat} {es : List Ext}
theorem OwnX.weaken {base' : Nat} (h : OwnX w base X xc es) (hb : base' ≤ base) : OwnX w base' X xc es := ⟨own_weaken h.1 hb, fun e he => (h.2 e he).weaken hb⟩
theorem OwnX.below (h : OwnX w base X xc es) (hb : Below w.heap.size w w') : OwnX w' base X xc es := ⟨own_below h.1 hb, fun e he => (h.2 e he).below hb⟩
theorem OwnX.kept {g : Nat} (h : OwnX w base X xc es) (hg : w.grownBy w' (some g)) (hb : g < base) : OwnX w' base X xc es := ⟨own_kept h.1 hg (own_not h.1 hb), fun e he => OwnB.kept (h.2 e he) hg (own_not (h.2 e he) hb)⟩
theorem OwnX.isX (h : OwnX w base X xc es) : IsX w w.heap.size X es.length es ∧ es.length ≤ xc ∧ xc ≤ maxLen := by
  obtain ⟨_, _, e, h1, h2, h3⟩ := own_isv h.1
  cases e
  refine ⟨⟨rfl, h3, fun e he => ?_⟩, h1, h2⟩
  obtain ⟨_, h4, h5, h6⟩ := (h.2 e he).reads
  exact ⟨h6, h4, h5⟩
end
/-- How six.chain ends. -/
def ChEnd (R : Option (List (Int × List UInt8) × Nat × List UInt8)) (cls lab hop shi slo dhi dlo : Nat) (w w' : World) (e : Ending) : Prop :=
  (R = none → e = .returned (.tuple #[hd0, .slice none 0 0, .int .i64 11])) ∧
  (∀ acc next rest, R = some (acc, next, rest) → ∃ (X : Option Addr) (xc : Nat) (es : List Ext) (A2 : Option Addr) (c2 : Nat), e = .returned (.tuple #[hdV cls lab hop true shi slo true dhi dlo X es.length xc next, .slice A2 rest.length c2, .int .i64 0]) ∧ es.map Ext.pe = acc ∧ OwnX w' w.heap.size X xc es ∧ OwnB w' w.heap.size (.slice A2 rest.length c2) rest) ∧ Below w.heap.size w w'
/-- A slice's length. -/
def sliceLen : Value → Nat
  | .slice _ n _ => n
  | _ => 0
/-- How things stand at the loop's head, or behind it. -/
def ChS (w4 : World) (g : Nat) (cls lab hop shi slo dhi dlo : Nat) (R : Option (List (Int × List UInt8) × Nat × List UInt8)) (fin : Bool) (nx rs : Value) (wx : World) : Prop :=
  ∃ (next : Nat) (rest : List UInt8) (acc : List (Int × List UInt8)) (Ar : Option Addr) (nr cr : Nat), nx = .int .i64 (next : Int) ∧ rs = .slice Ar nr cr ∧ nr ≤ cr ∧ cr ≤ maxLen ∧ next ≤ 255 ∧ nr ≤ 1099511627776 ∧ IsB wx g Ar nr rest ∧ acc.length ≤ 8 ∧
    (if fin = true then (if isB (next : Int) = true then none else some (acc, next, rest)) else chainF (9 - acc.length) next rest acc) = R ∧ ChW w4 w4.heap.size g cls lab hop shi slo dhi dlo acc wx
set_option maxRecDepth 20000 in
set_option maxHeartbeats 8000000 in
theorem chain_any (A : Option Addr) (n c : Nat) (xs : List UInt8) (w : World) (hx : IsB w w.heap.size A n xs) (hnc : n ≤ c) (hcm : c ≤ maxLen) (hnm : n ≤ 1099511627776) (h40 : 40 ≤ n)
    (cls lab hop shi slo dhi dlo : Nat) (q1 : beN xs 0 4 / 1048576 % 256 = cls) (q2 : beN xs 0 4 % 1048576 = lab) (q3 : (xs.getD 7 0).toNat = hop) (q4 : beN xs 8 8 = shi) (q5 : beN xs 16 8 = slo) (q6 : beN xs 24 8 = dhi) (q7 : beN xs 32 8 = dlo)
    (R : Option (List (Int × List UInt8) × Nat × List UInt8)) (hR : chainF 9 (xs.getD 6 0).toNat (xs.drop 40) [] = R) :
    Calls Try.prog 79 #[.slice A n c] w fun e w' => ChEnd R cls lab hop shi slo dhi dlo w w' e := by
  obtain ⟨b, off, v7, rfl, hbl, hv7, hv7l, hc7⟩ := hx.byte (i := 7) (by omega)
  obtain ⟨v6, hv6, hv6l, hc6⟩ := hx.byteAt (i := 6) (by omega)
  rw [hv7] at q3
  subst q3
  rw [hv6] at hR
  obtain ⟨wd, hwd⟩ : ∃ wd, beN xs 0 4 = wd := ⟨_, rfl⟩
  rw [hwd] at q1 q2
  have hwl : wd < 4294967296 := by rw [← hwd]; exact beN_lt xs 0 4
  obtain ⟨w1, hw1⟩ : ∃ w1, w.alloc (hdC 0 0 0 false 0 0 false 0 0 none 0 0 0) = w1 := ⟨_, rfl⟩
  have hb1 : Below w.heap.size w w1 := hw1 ▸ (Below.refl _ _).alloc (Nat.le_refl _) _
  have hg1 : w1.heap[w.heap.size]? = some (.cells #[.int .i64 0, .int .i64 0, .int .i64 0, .bool false, .int .u64 0, .int .u64 0, .bool false, .int .u64 0, .int .u64 0, .slice none 0 0, .int .i64 0] 98 (0, 0)) := hw1 ▸ blk_new _ _ _
  have hlt1 : w.heap.size < w1.heap.size := by rw [← hw1]; simp
  have hx1 : IsB w1 w1.heap.size (some ⟨b, off, none⟩) n xs := hx.on hb1
  have hd7 : ∀ l : Later w1, l.w.cell? ⟨b, off + 7, none⟩ = some (.int .u8 (v7 : Nat)) := fun l => l.cell (by rw [← hw1]; exact (((Below.refl _ _).alloc (Nat.le_refl _) _).cell hbl).trans hc7)
  have i7 : (7 : Int) < (n : Int) := by omega
  have e1 : bits .and .u64 ((wd : Int) / 1048576) 255 = (cls : Int) := by rw [u64_and255 _ (by omega) (by omega)]; omega
  have e2 : bits .and .u64 (wd : Int) 1048575 = (lab : Int) := by rw [u64_and20 _ (by omega) (by omega)]; omega
  have r1 : IntKind.i64.wrap (cls : Int) = (cls : Int) := wraps62 _ (by omega) (by omega)
  have r2 : IntKind.i64.wrap (lab : Int) = (lab : Int) := wraps62 _ (by omega) (by omega)
  have r3 : IntKind.i64.wrap (v7 : Int) = (v7 : Int) := wraps62 _ (by omega) (by omega)
  unfold hdC at hw1
  clear hc7 hc6
  replace q1 := hide q1
  replace q2 := hide q2
  replace q4 := hide q4
  replace q5 := hide q5
  replace q6 := hide q6
  replace q7 := hide q7
  replace hR := hide hR
  replace hv6 := hide hv6
  replace hv7 := hide hv7
  replace hwd := hide hwd
  replace hb1 := hide hb1
  replace hg1 := hide hg1
  replace hx1 := hide hx1
  replace hx := hide hx
  go_enter Try.func79, Try.ntmps79
  go_wp2_with fail
  refine (Octet.at_lit _ _ 0 4 rfl rfl _ _ _ xs _ hx1.out (by unfold maxLen; omega) (by omega) (by omega)).mono ?_
  rintro e w' ⟨rfl, rfl⟩
  rw [hwd.out]
  clear hw1
  go_wp2_with fail
  refine wp_region_L (by as_aux_lemma => kernel_rfl) ?_
  refine wpE_seg 0 22 (fuel := 2) (by as_aux_lemma => kernel_rfl) (fun d _ _ _ _ h => by cases d <;> exact h) (by as_aux_lemma => kernel_rfl) (by as_aux_lemma => kernel_rfl) ?_
  simp only [List.drop_zero, List.take_succ_cons, List.take_zero]
  iterate 12 (refine wpQE_step (fun K hK => ?_); go_simp; refine hK _ ?_; clear hK K)
  (refine wpQE_step (fun K hK => ?_); go_simp; apply Exists.intro; refine ⟨fun l => ?_, hK _ ?_⟩; (go_at_call 36; refine (Octet.at_lit _ _ 8 8 rfl rfl _ _ _ xs _ (IsB.later hx1.out l) (by unfold maxLen; omega) (by omega) (by omega)).mono ?_; rw [q4.out]; rintro e w' ⟨rfl, rfl⟩; exact ⟨rfl, lt_refl _⟩); clear hK K)
  iterate 1 (refine wpQE_step (fun K hK => ?_); go_simp; refine hK _ ?_; clear hK K)
  (refine wpQE_step (fun K hK => ?_); go_simp; apply Exists.intro; refine ⟨fun l => ?_, hK _ ?_⟩; (go_at_call 36; refine (Octet.at_lit _ _ 16 8 rfl rfl _ _ _ xs _ (IsB.later hx1.out l) (by unfold maxLen; omega) (by omega) (by omega)).mono ?_; rw [q5.out]; rintro e w' ⟨rfl, rfl⟩; exact ⟨rfl, lt_refl _⟩); clear hK K)
  (refine wpQE_step (fun K hK => ?_); go_simp; apply Exists.intro; refine ⟨fun l => ?_, hK _ ?_⟩; (go_at_call 78; refine (v6_any _ _ _).mono ?_; rintro e w' ⟨rfl, hb⟩; exact ⟨rfl, hb⟩); clear hK K)
  iterate 1 (refine wpQE_step (fun K hK => ?_); go_simp; refine hK _ ?_; clear hK K)
  (refine wpQE_step (fun K hK => ?_); go_simp; apply Exists.intro; refine ⟨fun l => ?_, hK _ ?_⟩; (go_at_call 36; refine (Octet.at_lit _ _ 24 8 rfl rfl _ _ _ xs _ (IsB.later hx1.out l) (by unfold maxLen; omega) (by omega) (by omega)).mono ?_; rw [q6.out]; rintro e w' ⟨rfl, rfl⟩; exact ⟨rfl, lt_refl _⟩); clear hK K)
  iterate 1 (refine wpQE_step (fun K hK => ?_); go_simp; refine hK _ ?_; clear hK K)
  (refine wpQE_step (fun K hK => ?_); go_simp; apply Exists.intro; refine ⟨fun l => ?_, hK _ ?_⟩; (go_at_call 36; refine (Octet.at_lit _ _ 32 8 rfl rfl _ _ _ xs _ (IsB.later hx1.out l) (by unfold maxLen; omega) (by omega) (by omega)).mono ?_; rw [q7.out]; rintro e w' ⟨rfl, rfl⟩; exact ⟨rfl, lt_refl _⟩); clear hK K)
  (refine wpQE_step (fun K hK => ?_); go_simp; apply Exists.intro; refine ⟨fun l => ?_, hK _ ?_⟩; (go_at_call 78; refine (v6_any _ _ _).mono ?_; rintro e w' ⟨rfl, hb⟩; exact ⟨rfl, hb⟩); clear hK K)
  iterate 1 (refine wpQE_step (fun K hK => ?_); go_simp; refine hK _ ?_; clear hK K)
  refine wpQE_nil ?_
  clear hd7
  refine wpE_step 22 (fuel := 1) rfl (by as_aux_lemma => kernel_rfl) (fun l K hK => ?_)
  go_simp
  have hgn := blk_new l.w 98 #[.int .i64 0, .int .i64 0, .int .i64 0, .bool false, .int .u64 0, .int .u64 0, .bool false, .int .u64 0, .int .u64 0, .slice none 0 0, .int .i64 0]
  have hba : Below l.w.heap.size l.w (l.w.alloc (hdC 0 0 0 false 0 0 false 0 0 none 0 0 0)) := (Below.refl _ _).alloc (Nat.le_refl _) _
  obtain ⟨wa, hwa⟩ : ∃ wa, l.w.alloc (hdC 0 0 0 false 0 0 false 0 0 none 0 0 0) = wa := ⟨_, rfl⟩
  have hza : l.w.heap.size < wa.heap.size := by rw [← hwa]; simp
  unfold hdC at hwa hba
  rw [hwa] at hgn hba ⊢
  refine hK _ _ hba ?_
  clear hK K hwa
  refine wpE_end (by as_aux_lemma => kernel_rfl) (fun l2 => ?_)
  have hg2 := blk_below l2.hb hza hgn
  have hcg := blk_cell hg2
  have hfg := blk_free hg2
  refine wpT_step 23 rfl (by as_aux_lemma => kernel_rfl) (fun K hK => ?_)
  go_simp
  refine hK _ _ ?_
  clear hK K
  refine wpT_done (by as_aux_lemma => kernel_rfl) ?_ 0
  have hb12 : Below w1.heap.size w1 l2.w := (l.hb.trans (hba.mono l.hb.size)).trans (l2.hb.mono (Nat.le_trans l.hb.size hba.size))
  obtain ⟨g, hg⟩ : ∃ g, l.w.heap.size = g := ⟨_, rfl⟩
  have hgz : w1.heap.size ≤ g := by rw [← hg]; exact l.hb.size
  rw [hg] at hg2 hza ⊢
  have hzg : g < l2.w.heap.size := Nat.lt_of_lt_of_le hza l2.hb.size
  clear hcg hfg
  obtain ⟨w3, e3, hg3, hgr3⟩ := set11 hg2 (.int .i64 cls) (.int .i64 lab) (.int .i64 v7) (.bool true) (.int .u64 shi) (.int .u64 slo) (.bool true) (.int .u64 dhi) (.int .u64 dlo) (.slice none 0 0) (.int .i64 0)
  rw [e3]
  clear e3
  have hb13 : Below w1.heap.size w1 w3 := hb12.trans (below_of_grown hgr3 hb12.size (by intro k hk; cases hk; exact hgz))
  have hz3 : g < w3.heap.size := Nat.lt_of_lt_of_le hzg hgr3.size
  clear hgn hba hg2 hgr3 hb12 hza
  have hx3 := hx1.out.on hb13
  have hB3 := hb1.out.trans (hb13.mono (Nat.le_of_lt hlt1))
  have hg03 := blk_below hb13 hlt1 hg1.out
  have hxg : IsB w3 g (some ⟨b, off, none⟩) n xs := (hx1.out.below hb13).more hgz
  obtain ⟨_, _, _, hc6⟩ := hx3.byteAt (i := 6) (by omega)
  obtain ⟨v6', hv6', _, hc6⟩ := hx3.byteAt (i := 6) (by omega)
  obtain rfl : v6 = v6' := by rw [← hv6.out, ← hv6']
  have hd6 : ∀ l : Later w3, l.w.cell? ⟨b, off + 6, none⟩ = some (.int .u8 (v6 : Nat)) := fun l => l.cell hc6
  have i6 : (6 : Int) < (n : Int) := by omega
  have k40 : (40 : Int) ≤ (n : Int) := by omega
  have knc : (n : Int) ≤ (c : Int) := by omega
  have r6 : IntKind.i64.wrap (v6 : Int) = (v6 : Int) := wraps62 _ (by omega) (by omega)
  obtain ⟨A8, hA8⟩ : ∃ A8, (if c = 40 then some (⟨b, off, none⟩ : Addr) else some ⟨b, off + 40, none⟩) = A8 := ⟨_, rfl⟩
  have hx8 : IsB w3 g A8 (n - 40) (xs.drop 40) := hxg.dropAt hA8 h40 hnc
  clear hc6 hv6'
  replace hx3 := hide hx3
  replace hB3 := hide hB3
  replace hg03 := hide hg03
  replace hg3 := hide hg3
  replace hxg := hide hxg
  replace hx8 := hide hx8
  replace hb13 := hide hb13
  replace hg := hide hg
  clear e1 e2 r1 r2 r3
  go_wp2_with fail
  refine wp_region_L (by as_aux_lemma => kernel_rfl) ?_
  refine wpE_seg 0 8 (fuel := 0) (by as_aux_lemma => kernel_rfl) (fun d _ _ _ _ h => by cases d <;> exact h) (by as_aux_lemma => kernel_rfl) (by as_aux_lemma => kernel_rfl) ?_
  simp only [List.drop_zero, List.take_succ_cons, List.take_zero]
  iterate 8 (refine wpQE_step (fun K hK => ?_); go_simp; refine hK _ ?_; clear hK K)
  refine wpQE_nil ?_
  refine wpE_done (by as_aux_lemma => kernel_rfl) (fun w4 hb34 => ?_) 0
  have hz4 : g < w4.heap.size := Nat.lt_of_lt_of_le hz3 hb34.size
  have hstart : ChS w4 g cls lab v7 shi slo dhi dlo R false (.int .i64 (v6 : Int)) (.slice A8 (n - 40) (c - 40)) w4 := by
    refine ⟨v6, xs.drop 40, [], A8, n - 40, c - 40, rfl, rfl, by omega, by omega, hv6l, by omega, hx8.out.below (hb34.mono (Nat.le_of_lt hz3)), by simp, hR.out, none, 0, [], rfl, World.ownsRow_nil w4 _ _ 2, (fun e he => by cases he), blk_below hb34 hz3 hg3.out, Below.refl _ _⟩
  have hB4 := hB3.out.trans (hb34.mono hB3.out.size)
  have hg04 := blk_below hb34 (Nat.lt_of_lt_of_le hlt1 hb13.out.size) hg03.out
  have hg0g : w.heap.size < g := Nat.lt_of_lt_of_le hlt1 hgz
  clear hb34 hd6 r6
  replace hstart := hide hstart
  replace hB4 := hide hB4
  replace hg04 := hide hg04
  go_upto_block 0 with fail
  go_cut [7, 8, 9] (fun nx rs sz wx => ChS w4 g cls lab v7 shi slo dhi dlo R true nx rs wx)
  case first =>
    go_wp2_with fail
    go_loopw [7, 8] (fun nx rs wr => ChS w4 g cls lab v7 shi slo dhi dlo R false nx rs wr) (fun _ rs _ => sliceLen rs)
    case atStart => exact hstart.out
    case round =>
      obtain ⟨next, rest, acc, Ar, nr, cr, rfl, rfl, hnr, hcrm, hnx, hnrm, hxr, hacc, hRr, X, xc, es, hes, hrow, hdata, hgr, hbr⟩ := hrel
      obtain ⟨m, hm⟩ : ∃ m, es.length = m := ⟨_, rfl⟩
      have hesl : acc.length = m := by rw [← hes, List.length_map, hm]
      rw [hm] at hrow hgr
      rw [hesl] at hacc
      have hg0r := blk_below hbr hg0g hg04.out
      have hBr := hB4.out.trans (hbr.mono (Nat.le_of_lt hg0g))
      simp only [Bool.false_eq_true, if_false] at hRr
      obtain ⟨f, hf⟩ : ∃ f, 9 - acc.length = f + 1 := ⟨8 - m, by omega⟩
      rw [hf] at hRr
      unfold chainF at hRr
      replace hxr := hide hxr
      replace hes := hide hes
      replace hrow := hide hrow
      replace hdata := hide hdata
      replace hgr := hide hgr
      replace hbr := hide hbr
      replace hg0r := hide hg0r
      replace hBr := hide hBr
      replace hf := hide hf
      replace hm := hide hm
      replace hesl := hide hesl
      rcases hib : isB (next : Int) with _ | _
      · rw [if_pos hib] at hRr
        replace hRr := hide hRr
        replace hib := hide hib
        go_wp2_with fail
        refine (is_any (next : Int) _).mono ?_
        rw [hib.out]
        rintro e w' ⟨rfl, rfl⟩
        go_wp2_with fail
        go_meet
        refine ⟨next, rest, acc, Ar, nr, cr, rfl, rfl, hnr, hcrm, hnx, hnrm, hxr.out, by rw [hesl.out]; exact hacc, ?_, X, xc, es, hes.out, by rw [hm.out]; exact hrow.out, hdata.out, by rw [hm.out]; exact hgr.out, hbr.out⟩
        rw [if_pos rfl, hib.out]
        simpa using hRr.out
      · rw [if_neg (by rw [hib]; simp)] at hRr
        replace hib := hide hib
        have hcgr := blk_cell hgr.out
        go_wp2_with fail
        refine (is_any (next : Int) _).mono ?_
        rw [hib.out]
        rintro e w' ⟨rfl, rfl⟩
        have hrl : rest.length = nr := hxr.out.1
        rw [hesl.out, hrl] at hRr
        by_cases h8 : m = 8
        · rw [if_pos (.inl h8)] at hRr
          have t1 : ((m : Int) == 8) = true := by rw [beq_iff_eq]; omega
          replace h8 := hide h8
          clear hcgr; have hcgr := blk_cell hgr.out
          replace hRr := hide hRr
          have hcg := blk_cell hg0r.out
          have hfg := blk_free hg0r.out
          go_wp2_with fail
          refine bodyPost_ret (v := .tuple #[hd0, .slice none 0 0, .int .i64 11]) (by simp [results, Try.results79, go_sem, hcg]) rfl ⟨fun _ => rfl, ?_, ?_⟩
          · intro a b c hh
            rw [← hRr.out] at hh
            cases hh
          · iterate 11 refine below_set ?_ (by rfl) _
            exact hBr.out
        have t1 : ((m : Int) == 8) = false := by rw [beq_eq_false_iff_ne]; omega
        by_cases h9 : nr < 8
        · rw [if_pos (.inr h9)] at hRr
          have t2 : (nr : Int) < 8 := by omega
          clear hcgr; have hcgr := blk_cell hgr.out
          replace hRr := hide hRr
          have hcg := blk_cell hg0r.out
          have hfg := blk_free hg0r.out
          go_wp2_with fail
          refine bodyPost_ret (v := .tuple #[hd0, .slice none 0 0, .int .i64 11]) (by simp [results, Try.results79, go_sem, hcg]) rfl ⟨fun _ => rfl, ?_, ?_⟩
          · intro a b c hh
            rw [← hRr.out] at hh
            cases hh
          · iterate 11 refine below_set ?_ (by rfl) _
            exact hBr.out
        rw [if_neg (by omega)] at hRr
        have t2 : ¬ (nr : Int) < 8 := by omega
        obtain ⟨s, hs⟩ : ∃ s, sizeP next rest = s := ⟨_, rfl⟩
        rw [hs] at hRr
        obtain ⟨br, or_, v0, rfl, hbr0, hv0, hv0l, hc0⟩ := hxr.out.byte (i := 0) (by omega)
        obtain ⟨v1, hv1, hv1l, hc1⟩ := hxr.out.byteAt (i := 1) (by omega)
        rw [Nat.add_zero] at hc0
        rw [hv0] at hRr
        have i1 : (1 : Int) < (nr : Int) := by omega
        have i0 : (0 : Int) < (nr : Int) := by omega
        have hsb : s ≤ 2048 ∧ 8 ≤ s := by rw [← hs]; unfold sizeP; rw [hv1]; split <;> omega
        obtain ⟨hsb1, hsb2⟩ := hsb
        have hs44 : next = 44 → (8 : Int) = (s : Int) := fun h => by rw [← hs]; unfold sizeP; rw [if_pos h]; rfl
        have hsn44 : next ≠ 44 → 8 + 8 * (v1 : Int) = (s : Int) := fun h => by rw [← hs]; unfold sizeP; rw [if_neg h, hv1]; omega
        replace hs := hide hs
        replace hv0 := hide hv0
        replace hv1 := hide hv1
        replace hs44 := hide hs44
        replace hsn44 := hide hsn44
        replace hRr := hide hRr
        replace hrl := hide hrl
        go_upto_if 53 with fail
        go_cut [9] (fun s9 wx => s9 = .int .i64 (s : Int) ∧ wr = wx)
        case first =>
          by_cases h44 : next = 44
          · have e := hs44.out h44
            have t3 : ((next : Int) != 44) = false := by simp; omega
            replace h44 := hide h44
            replace e := hide e
            go_wp2_with fail
            go_meet
            exact ⟨by rw [e.out], rfl⟩
          · have e := hsn44.out h44
            have t3 : ((next : Int) != 44) = true := by simp; omega
            replace h44 := hide h44
            replace e := hide e
            go_wp2_with fail
            go_meet
            exact ⟨by rw [e.out], rfl⟩
        case rest =>
        obtain ⟨rfl, rfl⟩ := hcut
        have hRr := hRr.out
        by_cases h10 : nr < s
        · rw [if_pos (.inl h10)] at hRr
          have t3 : (nr : Int) < (s : Int) := by omega
          skip
          replace hRr := hide hRr
          have hcg := blk_cell hg0r.out
          have hfg := blk_free hg0r.out
          go_wp2_with fail
          refine bodyPost_ret (v := .tuple #[hd0, .slice none 0 0, .int .i64 11]) (by simp [results, Try.results79, go_sem, hcg]) rfl ⟨fun _ => rfl, ?_, ?_⟩
          · intro a b c hh
            rw [← hRr.out] at hh
            cases hh
          · iterate 11 refine below_set ?_ (by rfl) _
            exact hBr.out
        have t3 : ¬ (nr : Int) < (s : Int) := by omega
        by_cases h11 : next = 0 ∧ 0 < m
        · rw [if_pos (.inr h11)] at hRr
          have t4 : ((next : Int) == 0) = true := by rw [beq_iff_eq]; omega
          have t5 : (0 : Int) < (m : Int) := by omega
          clear h11
          skip
          replace hRr := hide hRr
          have hcg := blk_cell hg0r.out
          have hfg := blk_free hg0r.out
          go_wp2_with fail
          refine bodyPost_ret (v := .tuple #[hd0, .slice none 0 0, .int .i64 11]) (by simp [results, Try.results79, go_sem, hcg]) rfl ⟨fun _ => rfl, ?_, ?_⟩
          · intro a b c hh
            rw [← hRr.out] at hh
            cases hh
          · iterate 11 refine below_set ?_ (by rfl) _
            exact hBr.out
        rw [if_neg (by omega)] at hRr
        have hnm0 : next = 0 → m = 0 := fun h => by omega
        replace hRr := hide hRr
        replace hnm0 := hide hnm0
        clear h11
        go_upto_region 10 with fail
        go_cut [74] (fun s74 wx => s74 = .bool false ∧ wr = wx)
        case first =>
          by_cases hn0 : next = 0
          · have t4 : ((next : Int) == 0) = true := by rw [beq_iff_eq]; omega
            have hm0 := hnm0.out hn0
            have t5 : ¬ (0 : Int) < (m : Int) := by omega
            replace hn0 := hide hn0
            replace hm0 := hide hm0
            go_wp2_with fail
            go_meet
            exact ⟨by simp [hm0.out], rfl⟩
          · have t4 : ((next : Int) == 0) = false := by rw [beq_eq_false_iff_ne]; omega
            replace hn0 := hide hn0
            go_wp2_with fail
            go_meet
            exact ⟨rfl, rfl⟩
        case rest =>
        obtain ⟨rfl, rfl⟩ := hcut
        have hzr : g < wr.heap.size := Nat.lt_of_lt_of_le hz4 hbr.out.size
        have hd1 : IsB wr g (some ⟨br, or_ + 1, none⟩) (s - 1) ((rest.take s).drop 1) := by
          have h1 := hxr.out.cut (k := 1) (m := s) (cap := cr) (by omega) (by omega) (by omega)
          rw [if_neg (by omega)] at h1
          exact h1
        have hdl : ((rest.take s).drop 1).length = s - 1 := by rw [List.length_drop, List.length_take, hrl.out]; omega
        obtain ⟨ds, hds⟩ : ∃ ds, (rest.take s).drop 1 = ds := ⟨_, rfl⟩
        have hRr2 := hRr.out
        rw [hds] at hRr2 hd1 hdl
        have hcr1 : ¬ cr = 1 := by omega
        have k1s : (1 : Int) ≤ (s : Int) := by omega
        have ksn : (s : Int) ≤ (nr : Int) := by omega
        have knc : (nr : Int) ≤ (cr : Int) := by omega
        have jsc : s ≤ cr := by omega
        have hcl : ∀ (l : Later wr) (o : Nat), l.w.cell? ⟨g, o, none⟩ = _ := fun l o => blk_cell (blk_below l.hb hzr hgr.out) o
        clear hRr hcgr
        replace hRr2 := hide hRr2
        replace hd1 := hide hd1
        replace hdl := hide hdl
        replace hds := hide hds
        go_wp2_with fail
        refine wp_region_L (by as_aux_lemma => kernel_rfl) ?_
        refine wpE_seg 0 6 (fuel := 6) (by as_aux_lemma => kernel_rfl) (fun d _ _ _ _ h => by cases d <;> exact h) (by as_aux_lemma => kernel_rfl) (by as_aux_lemma => kernel_rfl) ?_
        simp only [List.drop_zero, List.take_succ_cons, List.take_zero]
        iterate 6 (refine wpQE_step (fun K hK => ?_); go_simp; refine hK _ ?_; clear hK K)
        refine wpQE_nil ?_
        clear hcl
        refine wpE_step 6 (fuel := 5) rfl (by as_aux_lemma => kernel_rfl) (fun l K hK => ?_)
        go_simp
        go_at_call 83
        refine (clone_any _ _ _ ds _ ((hd1.out.below (l.hb.mono (Nat.le_of_lt hzr))).more (Nat.le_trans (Nat.le_of_lt hzr) l.hb.size)) (by omega)).mono ?_
        rintro e w6 ⟨v6', rfl, hown6, hb6⟩
        refine hK _ _ hb6 ?_
        clear hK K
        have hbr6 : Below wr.heap.size wr w6 := l.hb.trans (hb6.mono l.hb.size)
        have hown6 := hown6.weaken (base' := w4.heap.size) (Nat.le_trans hbr.out.size l.hb.size)
        obtain ⟨A6, c6, rfl, hc6, hm6, _⟩ := hown6.form
        rw [hdl.out] at hown6 hc6 ⊢
        have hz6 := hbr6.size
        clear hb6
        replace hown6 := hide hown6
        replace hbr6 := hide hbr6
        refine wpE_seg 7 1 (fuel := 4) (by as_aux_lemma => kernel_rfl) (fun d _ _ _ _ h => by cases d <;> exact h) (by as_aux_lemma => kernel_rfl) (by as_aux_lemma => kernel_rfl) ?_
        simp only [List.drop_succ_cons, List.drop_zero, List.take_succ_cons, List.take_zero]
        iterate 1 (refine wpQE_step (fun K hK => ?_); go_simp; refine hK _ ?_; clear hK K)
        refine wpQE_nil ?_
        refine wpE_step 8 (fuel := 3) rfl (by as_aux_lemma => kernel_rfl) (fun l7 K hK => ?_)
        go_simp
        obtain ⟨w7, hw7⟩ : ∃ w7, l7.w.alloc (.cells #[.int .i64 (next : Int), .slice A6 (s - 1) c6] 121) = w7 := ⟨_, rfl⟩
        have hb7 : Below l7.w.heap.size l7.w w7 := hw7 ▸ (Below.refl _ _).alloc (Nat.le_refl _) _
        have hz7 : w7.heap.size = l7.w.heap.size + 1 := by rw [← hw7]; simp
        have hv7n : IsV w7 (l7.w.heap.size + 1) 2 (some ⟨l7.w.heap.size, 0, none⟩) 1 (cells [⟨(next : Int), A6, c6, ds⟩]) := by
          have h1 := IsV.lit (size := 2) l7.w 121 [.int .i64 (next : Int), .slice A6 (s - 1) c6] 1 1 rfl
          rw [hw7] at h1
          simpa [cells, Ext.cs, hdl.out] using h1
        have hbr7 : Below wr.heap.size wr w7 := (hbr6.out.trans (l7.hb.mono hz6)).trans (hb7.mono (Nat.le_trans hz6 l7.hb.size))
        have hown7 := (hown6.out.below l7.hb).below hb7
        rw [hw7]
        refine hK _ _ hb7 ?_
        clear hK K hw7
        replace hown7 := hide hown7
        replace hbr7 := hide hbr7
        refine wpE_end (by as_aux_lemma => kernel_rfl) (fun l8 => ?_)
        have hbr8 : Below wr.heap.size wr l8.w := hbr7.out.trans (l8.hb.mono hbr7.out.size)
        have hrow8 := own_below hrow.out hbr8
        have hdata8 : ∀ e ∈ es, OwnB l8.w w4.heap.size (.slice e.A e.xs.length e.c) e.xs := fun e he => (hdata.out e he).below hbr8
        have hown8 := hown7.out.below l8.hb
        have hv8n := hv7n.below (l8.hb.mono (by omega))
        have hgr8 := blk_below hbr8 hzr hgr.out
        have hz8 := hbr8.size
        obtain ⟨i9, hi9, hiz, his, hib9⟩ := info_parts info_ext
        refine wpT_step 9 rfl (by as_aux_lemma => kernel_rfl) (fun K hK => ?_)
        rw [if_pos (by rfl)]
        refine wp_append_isv l8.w (.tmp 77) (.tmp 84) 96 rfl w4.heap.size 121 i9 _ 2 32 Try.underlying96 hi9 hiz his hib9 rfl (by omega) (.slice X m xc) m (cells es) rfl hrow8 (l7.w.heap.size + 1) (some ⟨l7.w.heap.size, 0, none⟩) 1 1 (cells [⟨(next : Int), A6, c6, ds⟩]) rfl hv8n ?_ (by unfold maxLen; omega) (by omega) (Nat.le_trans hbr.out.size hz8) ?_
        · intro u hu
          simp only [cells, Ext.cs, List.flatMap_cons, List.flatMap_nil, List.append_nil, List.mem_cons, List.not_mem_nil, or_false] at hu
          rcases hu with rfl | rfl <;> rfl
        intro v9 w9 hrow9 hgw9 _
        refine hK _ _ ?_
        clear hK K
        have hgb : g < w4.heap.size := hz4
        have hdata9 : ∀ e ∈ es, OwnB w9 w4.heap.size (.slice e.A e.xs.length e.c) e.xs := fun e he => OwnB.kept (hdata8 e he) hgw9 (own_apart (hdata8 e he) hrow8 (by decide))
        have hown9 := OwnB.kept hown8 hgw9 (own_apart hown8 hrow8 (by decide))
        have hgr9 := (hgw9.block g (Nat.lt_of_lt_of_le hzr hz8) (fun h => (own_not hrow8 hgb).elim (fun e => by rw [e] at h; cases h) (fun e => e h.symm))).trans hgr8
        have hbr9 : Below g wr w9 := (hbr8.mono (Nat.le_of_lt hzr)).trans (below_of_grown hgw9 (Nat.le_of_lt (Nat.lt_of_lt_of_le hzr hz8)) (fun k hk => Nat.le_trans (Nat.le_of_lt hgb) (World.ownsRow.lt hrow8 k hk).1))
        obtain ⟨X9, c9, rfl, hc9, hm9, _⟩ := own_isv hrow9
        clear hdata8 hown8 hgr8 hrow8 hgw9 hv8n hv7n hb7 hz7 hbr8 hi9 hiz his hib9 i9
        have hcg9 := blk_cell hgr9
        have hfg9 := blk_free hgr9
        replace hdata9 := hide hdata9
        replace hown9 := hide hown9
        replace hgr9 := hide hgr9
        replace hbr9 := hide hbr9
        replace hrow9 := hide hrow9
        refine wpT_step 10 rfl (by as_aux_lemma => kernel_rfl) (fun K hK => ?_)
        go_simp
        refine hK _ _ ?_
        clear hK K
        refine wpT_step 11 rfl (by as_aux_lemma => kernel_rfl) (fun K hK => ?_)
        go_simp
        refine hK _ _ ?_
        clear hK K
        refine wpT_done (by as_aux_lemma => kernel_rfl) ?_ 0
        have hgT : (w9.setCell ⟨g, 9, none⟩ (.slice X9 (m + 1) c9)).heap[g]? = some (.cells #[.int .i64 cls, .int .i64 lab, .int .i64 v7, .bool true, .int .u64 shi, .int .u64 slo, .bool true, .int .u64 dhi, .int .u64 dlo, .slice X9 (m + 1) c9, .int .i64 0] 98 (0, 0)) := by
          simpa using blk_set hgr9.out 9 (.slice X9 (m + 1) c9)
        have hgrT : w9.grownBy (w9.setCell ⟨g, 9, none⟩ (.slice X9 (m + 1) c9)) (some g) := grown_set (grown_refl _ _) rfl _
        have hbrT : Below g wr (w9.setCell ⟨g, 9, none⟩ (.slice X9 (m + 1) c9)) := hbr9.out.setCell (Nat.le_refl _) _
        obtain ⟨wT, hwT⟩ : ∃ wT, w9.setCell ⟨g, 9, none⟩ (.slice X9 (m + 1) c9) = wT := ⟨_, rfl⟩
        rw [hwT] at hgT hgrT hbrT ⊢
        have hrowT := own_kept hrow9.out hgrT (own_not hrow9.out hgb)
        have hdataT : ∀ e ∈ es, OwnB wT w4.heap.size (.slice e.A e.xs.length e.c) e.xs := fun e he => OwnB.kept (hdata9.out e he) hgrT (own_not (hdata9.out e he) hgb)
        have hownT := OwnB.kept hown9.out hgrT (own_not hown9.out hgb)
        clear hcg9 hfg9 hwT hgrT
        obtain ⟨es', hes'⟩ : ∃ es', es ++ [(⟨(next : Int), A6, c6, ds⟩ : Ext)] = es' := ⟨_, rfl⟩
        have hes'l : es'.length = m + 1 := by rw [← hes', List.length_append, hm.out]; rfl
        have hrowT' : wT.ownsRow w4.heap.size 121 2 (.slice X9 (m + 1) c9) (m + 1) (cells es') := by
          rw [← hes']
          simpa [cells] using hrowT
        have hdataT' : ∀ e ∈ es', OwnB wT w4.heap.size (.slice e.A e.xs.length e.c) e.xs := by
          intro e he
          rw [← hes', List.mem_append] at he
          rcases he with he | he
          · exact hdataT e he
          · simp only [List.mem_cons, List.not_mem_nil, or_false] at he
            subst he
            rw [← hdl.out] at hownT
            exact hownT
        have hmapT : es'.map Ext.pe = acc ++ [((next : Int), ds)] := by
          rw [← hes', List.map_append, hes.out]
          rfl
        clear hrowT hdataT hownT hes' hrow9 hdata9 hown9 hgr9 hbr9
        have hzT : g < wT.heap.size := Nat.lt_of_lt_of_le hzr hbrT.size
        have hcT : wT.cell? ⟨br, or_, none⟩ = some (.int .u8 (v0 : Int)) := (hbrT.cell (p := ⟨br, or_, none⟩) hbr0).trans hc0
        have hdT : ∀ l : Later wT, l.w.cell? ⟨br, or_, none⟩ = some (.int .u8 (v0 : Int)) := fun l => l.cell hcT
        have r0 : IntKind.i64.wrap (v0 : Int) = (v0 : Int) := wraps62 _ (by omega) (by omega)
        obtain ⟨A13, hA13⟩ : ∃ A13, (if cr = s then some (⟨br, or_, none⟩ : Addr) else some ⟨br, or_ + s, none⟩) = A13 := ⟨_, rfl⟩
        have k0s : (0 : Int) ≤ (s : Int) := by omega
        have j0 : 0 < nr := by omega
        clear hcT hc0 hc1
        replace hgT := hide hgT
        replace hbrT := hide hbrT
        replace hrowT' := hide hrowT'
        replace hdataT' := hide hdataT'
        replace hmapT := hide hmapT
        replace hes'l := hide hes'l
        go_wp2_with fail
        refine wp_region_L (by as_aux_lemma => kernel_rfl) ?_
        refine wpE_seg 0 9 (fuel := 0) (by as_aux_lemma => kernel_rfl) (fun d _ _ _ _ h => by cases d <;> exact h) (by as_aux_lemma => kernel_rfl) (by as_aux_lemma => kernel_rfl) ?_
        simp only [List.drop_zero, List.take_succ_cons, List.take_zero]
        iterate 9 (refine wpQE_step (fun K hK => ?_); go_simp; refine hK _ ?_; clear hK K)
        refine wpQE_nil ?_
        refine wpE_done (by as_aux_lemma => kernel_rfl) (fun wU hbU => ?_) 0
        have hx13 : IsB wU g A13 (nr - s) (rest.drop s) := ((hxr.out.dropAt hA13 (by omega) hnr).below hbrT.out).below (hbU.mono (Nat.le_of_lt hzT))
        have hbrU : Below g wr wU := hbrT.out.trans (hbU.mono (Nat.le_of_lt hzT))
        have hrowU := own_below hrowT'.out hbU
        have hdataU : ∀ e ∈ es', OwnB wU w4.heap.size (.slice e.A e.xs.length e.c) e.xs := fun e he => (hdataT'.out e he).below hbU
        have hgU := blk_below hbU hzT hgT.out
        have hxU : IsX wU wU.heap.size X9 (m + 1) es' := by
          refine ⟨hes'l.out, ?_, fun e he => ?_⟩
          · obtain ⟨_, _, e, _, _, h⟩ := own_isv hrowU
            cases e
            exact h
          · obtain ⟨_, h1, h2, h3⟩ := (hdataU e he).reads
            exact ⟨h3, h1, h2⟩
        have hcgU := blk_cell hgU
        obtain ⟨fg, hfg⟩ : ∃ fg, fragP (acc ++ [((next : Int), ds)]) = fg := ⟨_, rfl⟩
        have hfg2 : beN (partB es') 1 2 / 8 = fg := by rw [partB_eq, hmapT.out]; exact hfg
        have hm63 : m + 1 ≤ maxLen := by unfold maxLen; omega
        have hRr3 := hRr2.out
        rw [hfg] at hRr3
        clear hbU hdT r0
        replace hx13 := hide hx13
        replace hbrU := hide hbrU
        replace hrowU := hide hrowU
        replace hdataU := hide hdataU
        replace hgU := hide hgU
        replace hxU := hide hxU
        replace hfg := hide hfg
        replace hfg2 := hide hfg2
        go_wp2_with fail
        refine (frag_any cls lab v7 true shi slo true dhi dlo X9 (m + 1) c9 0 es' _ hxU.out hm63).mono ?_
        rw [hfg2.out]
        rintro e wV ⟨rfl, hbV⟩
        have hzU : g < wU.heap.size := Nat.lt_of_lt_of_le hzr hbrU.out.size
        have hfin : ∀ fin : Bool, (if fin = true then (if isB (v0 : Int) = true then none else some (acc ++ [((next : Int), ds)], v0, rest.drop s)) else chainF (9 - (acc ++ [((next : Int), ds)]).length) v0 (rest.drop s) (acc ++ [((next : Int), ds)])) = R →
            ChS w4 g cls lab v7 shi slo dhi dlo R fin (.int .i64 (v0 : Int)) (.slice A13 (nr - s) (cr - s)) wV := fun fin hfin =>
          ⟨v0, rest.drop s, acc ++ [((next : Int), ds)], A13, nr - s, cr - s, rfl, rfl, by omega, by omega, hv0l, by omega, hx13.out.below (hbV.mono (Nat.le_of_lt hzU)), by rw [List.length_append, hesl.out]; simp; omega, hfin, X9, c9, es', hmapT.out, by rw [hes'l.out]; exact own_below hrowU.out hbV, fun e he => (hdataU.out e he).below hbV, by rw [hes'l.out]; exact blk_below hbV hzU hgU.out, hbr.out.trans (hbrU.out.trans (hbV.mono (Nat.le_of_lt hzU)))⟩
        clear hcgU hbV
        replace hfin := hide hfin
        by_cases hf0 : 0 < fg
        · rw [if_pos hf0] at hRr3
          have t6 : (0 : Int) < (fg : Int) := by omega
          replace hRr3 := hide hRr3
          go_wp2_with fail
          go_meet
          exact hfin.out true (by rw [if_pos rfl]; exact hRr3.out)
        · rw [if_neg hf0] at hRr3
          have t6 : ¬ (0 : Int) < (fg : Int) := by omega
          replace hRr3 := hide hRr3
          go_wp2_with fail
          refine ⟨hfin.out false ?_, ?_⟩
          · rw [if_neg (by simp), List.length_append, hesl.out]
            have h9 := hf.out
            rw [hesl.out] at h9
            rw [show 9 - (m + [((next : Int), ds)].length) = f by simp; omega]
            exact hRr3.out
          · show nr - s < nr
            omega
  case rest =>
  obtain ⟨next, rest, acc, Ar, nr, cr, rfl, rfl, hnr, hcrm, hnx, hnrm, hxr, hacc, hRr, X, xc, es, hes, hrow, hdata, hgr, hbr⟩ := hcut
  obtain ⟨wr, hwr⟩ : ∃ wr, wc = wr := ⟨_, rfl⟩
  subst hwr
  obtain ⟨m, hm⟩ : ∃ m, es.length = m := ⟨_, rfl⟩
  rw [hm] at hrow hgr
  rw [if_pos rfl] at hRr
  have hgb : g < w4.heap.size := hz4
  have hzr : g < wc.heap.size := Nat.lt_of_lt_of_le hz4 hbr.size
  have hcg := blk_cell hgr
  have hfg := blk_free hgr
  have hgT : (wc.setCell ⟨g, 10, none⟩ (.int .i64 (next : Int))).heap[g]? = some (.cells #[.int .i64 cls, .int .i64 lab, .int .i64 v7, .bool true, .int .u64 shi, .int .u64 slo, .bool true, .int .u64 dhi, .int .u64 dlo, .slice X m xc, .int .i64 (next : Int)] 98 (0, 0)) := by
    simpa using blk_set hgr 10 (.int .i64 (next : Int))
  have hgrT : wc.grownBy (wc.setCell ⟨g, 10, none⟩ (.int .i64 (next : Int))) (some g) := grown_set (grown_refl _ _) rfl _
  have hbrT : Below g w4 (wc.setCell ⟨g, 10, none⟩ (.int .i64 (next : Int))) := hbr.setCell (Nat.le_refl _) _
  have hbcT : Below g wc (wc.setCell ⟨g, 10, none⟩ (.int .i64 (next : Int))) := below_set (n := g) (Below.refl g wc) (p := ⟨g, 10, none⟩) rfl _
  obtain ⟨wT, hwT⟩ : ∃ wT, wc.setCell ⟨g, 10, none⟩ (.int .i64 (next : Int)) = wT := ⟨_, rfl⟩
  rw [hwT] at hgT hgrT hbrT hbcT
  have hrowT := own_kept hrow hgrT (own_not hrow hgb)
  have hdataT : ∀ e ∈ es, OwnB wT w4.heap.size (.slice e.A e.xs.length e.c) e.xs := fun e he => OwnB.kept (hdata e he) hgrT (own_not (hdata e he) hgb)
  have hxT := hxr.below hbcT
  have hzT : g < wT.heap.size := Nat.lt_of_lt_of_le hzr hgrT.size
  have hg0T := blk_below hbrT hg0g hg04.out
  have hBT := hB4.out.trans (hbrT.mono (Nat.le_of_lt hg0g))
  clear hgr hrow hdata hxr hbr hgrT hbcT
  replace hgT := hide hgT
  replace hbrT := hide hbrT
  replace hrowT := hide hrowT
  replace hdataT := hide hdataT
  replace hxT := hide hxT
  replace hg0T := hide hg0T
  replace hBT := hide hBT
  replace hes := hide hes
  replace hm := hide hm
  have hRr0 := hide hRr
  clear hRr
  go_wp2_with fail
  refine (is_any (next : Int) _).mono ?_
  rintro e w' ⟨rfl, rfl⟩
  clear hcg hfg hwT
  have hRr := hRr0.out
  clear hRr0
  rcases hib : isB (next : Int) with _ | _
  · rw [hib, if_neg (by simp)] at hRr
    have hcl : ∀ (l : Later wT) (o : Nat), l.w.cell? ⟨g, o, none⟩ = _ := fun l o => blk_cell (blk_below l.hb hzT hgT.out) o
    have hrl : rest.length = nr := hxT.out.1
    replace hRr := hide hRr
    replace hib := hide hib
    go_wp2_with fail
    refine wp_region_L (by as_aux_lemma => kernel_rfl) ?_
    refine wpE_seg 0 2 (fuel := 4) (by as_aux_lemma => kernel_rfl) (fun d _ _ _ _ h => by cases d <;> exact h) (by as_aux_lemma => kernel_rfl) (by as_aux_lemma => kernel_rfl) ?_
    simp only [List.drop_zero, List.take_succ_cons, List.take_zero]
    iterate 2 (refine wpQE_step (fun K hK => ?_); go_simp; refine hK _ ?_; clear hK K)
    refine wpQE_nil ?_
    clear hcl
    refine wpE_step 2 (fuel := 3) rfl (by as_aux_lemma => kernel_rfl) (fun l K hK => ?_)
    go_simp
    go_at_call 83
    refine (clone_any _ _ _ rest _ ((hxT.out.below (l.hb.mono (Nat.le_of_lt hzT))).more (Nat.le_trans (Nat.le_of_lt hzT) l.hb.size)) (by omega)).mono ?_
    rintro e w6 ⟨v6', rfl, hown6, hb6⟩
    refine hK _ _ hb6 ?_
    clear hK K
    have hbT6 : Below wT.heap.size wT w6 := l.hb.trans (hb6.mono l.hb.size)
    have hown6 := hown6.weaken (base' := w4.heap.size) (Nat.le_trans hbrT.out.size l.hb.size)
    obtain ⟨A6, c6, rfl, hc6, hm6, _⟩ := hown6.form
    rw [hrl] at hown6 hc6 ⊢
    clear hb6
    refine wpE_end (by as_aux_lemma => kernel_rfl) (fun l7 => ?_)
    have hbT7 : Below wT.heap.size wT l7.w := hbT6.trans (l7.hb.mono hbT6.size)
    have hrow7 := own_below hrowT.out hbT7
    have hdata7 : ∀ e ∈ es, OwnB l7.w w4.heap.size (.slice e.A e.xs.length e.c) e.xs := fun e he => (hdataT.out e he).below hbT7
    have hown7 := hown6.below l7.hb
    have hg07 := blk_below hbT7 (Nat.lt_trans hg0g hzT) hg0T.out
    have hB7 := hBT.out.trans (hbT7.mono (Nat.le_of_lt (Nat.lt_trans hg0g hzT)))
    have hcg := blk_cell hg07
    have hfg := blk_free hg07
    have hg0b : w.heap.size < w4.heap.size := Nat.lt_trans hg0g hgb
    clear hbT7 hbT6 hown6
    obtain ⟨w8, e8, hg08, hgr8⟩ := set11 hg07 (.int .i64 cls) (.int .i64 lab) (.int .i64 v7) (.bool true) (.int .u64 shi) (.int .u64 slo) (.bool true) (.int .u64 dhi) (.int .u64 dlo) (.slice X m xc) (.int .i64 (next : Int))
    have hrow8 := own_kept hrow7 hgr8 (own_not hrow7 hg0b)
    have hdata8 : ∀ e ∈ es, OwnB w8 w4.heap.size (.slice e.A e.xs.length e.c) e.xs := fun e he => OwnB.kept (hdata7 e he) hgr8 (own_not (hdata7 e he) hg0b)
    have hown8 := OwnB.kept hown7 hgr8 (own_not hown7 hg0b)
    have hB8 := hB7.trans (below_of_grown hgr8 hB7.size (by intro k hk; cases hk; exact Nat.le_refl _))
    clear hrow7 hdata7 hown7 hB7 hgr8
    replace hrow8 := hide hrow8
    replace hdata8 := hide hdata8
    replace hown8 := hide hown8
    replace hg07 := hide hg07
    replace hB8 := hide hB8
    replace e8 := hide e8
    replace hrl := hide hrl
    refine wpT_step 3 rfl (by as_aux_lemma => kernel_rfl) (fun K hK => ?_)
    go_simp
    rw [e8.out]
    refine hK _ _ ?_
    clear hK K hcg hfg
    have hcg := blk_cell hg08
    replace hg08 := hide hg08
    refine wpT_step 4 rfl (by as_aux_lemma => kernel_rfl) (fun K hK => ?_)
    go_simp
    refine hK _ _ ?_
    clear hK K
    refine wpT_step 5 rfl (by as_aux_lemma => kernel_rfl) (fun K hK => ?_)
    go_simp
    refine hK _ _ ?_
    clear hK K
    refine wpT_done (by as_aux_lemma => kernel_rfl) ?_ 0
    go_wp2_with fail
    refine bodyPost_ret (v := .tuple #[hdV cls lab v7 true shi slo true dhi dlo X m xc next, .slice A6 nr c6, .int .i64 0]) (by simp [results, Try.results79, go_sem, hcg]) rfl ⟨?_, ?_, hB8.out⟩
    · intro hh
      rw [← hRr.out] at hh
      cases hh
    · intro acc' next' rest' hh
      rw [← hRr.out] at hh
      cases hh
      have hwb : w.heap.size ≤ w4.heap.size := Nat.le_of_lt hg0b
      refine ⟨X, xc, es, A6, c6, by rw [hm.out, hrl.out], hes.out, ⟨?_, fun e he => (hdata8.out e he).weaken hwb⟩, ?_⟩
      · rw [hm.out]
        exact own_weaken hrow8.out hwb
      · rw [hrl.out]
        exact hown8.out.weaken hwb
  · rw [hib, if_pos rfl] at hRr
    have hcg := blk_cell hg0T.out
    have hfg := blk_free hg0T.out
    replace hRr := hide hRr
    replace hib := hide hib
    go_wp2_with fail
    refine bodyPost_ret (v := .tuple #[hd0, .slice none 0 0, .int .i64 11]) (by simp [results, Try.results79, go_sem, hcg]) rfl ⟨fun _ => rfl, ?_, ?_⟩
    · intro a b c hh
      rw [← hRr.out] at hh
      cases hh
    · iterate 11 refine below_set ?_ (by rfl) _
      exact hBT.out
end Six
end Go.Proofs.Ytfmmmjaficbchaa
/- six.Quote and six.Parse by contract. Conditions: slices of bytes that read as lists. -/
namespace Go.Proofs.Ytfmmmjaficbchaa
open Go.RowKit Go.ChangeShapes Go.WideShapes Go.ChangeAt Go.Deep
namespace Six
/-- What is made of bytes: why nothing (k), or a header and what is behind it. -/
def Ends (k : Nat) (R : Option (List (Int × List UInt8) × Nat × List UInt8)) (cls lab hop shi slo dhi dlo : Nat) (w w' : World) (e : Ending) : Prop :=
  (k ≠ 0 → e = .returned (.tuple #[hd0, .slice none 0 0, .int .i64 (k : Int)])) ∧
  (k = 0 → ∃ acc next rest, R = some (acc, next, rest) ∧ ∃ (X : Option Addr) (xc : Nat) (es : List Ext) (A2 : Option Addr) (c2 : Nat),
    e = .returned (.tuple #[hdV cls lab hop true shi slo true dhi dlo X es.length xc next, .slice A2 rest.length c2, .int .i64 0]) ∧ es.map Ext.pe = acc ∧ OwnX w' w.heap.size X xc es ∧ OwnB w' w.heap.size (.slice A2 rest.length c2) rest) ∧ Below w.heap.size w w'
/-- Why bytes quote nothing; 0: they do. -/
def quoteK (n : Nat) (xs : List UInt8) : Nat := if n < 40 then 2 else if (xs.getD 0 0).toNat / 16 ≠ 6 then 10 else if (chainF 9 (xs.getD 6 0).toNat (xs.drop 40) []).isNone then 11 else 0
def quoteR (xs : List UInt8) : Option (List (Int × List UInt8) × Nat × List UInt8) := chainF 9 (xs.getD 6 0).toNat (xs.drop 40) []
/-- Why bytes are no packet; 0: they are. -/
def parseK (n : Nat) (xs : List UInt8) : Nat := if n < 40 then 2 else if (xs.getD 0 0).toNat / 16 ≠ 6 then 10 else if n - 40 < beN xs 4 2 then 12 else if (chainF 9 (xs.getD 6 0).toNat ((xs.take (40 + beN xs 4 2)).drop 40) []).isNone then 11 else 0
def parseR (xs : List UInt8) : Option (List (Int × List UInt8) × Nat × List UInt8) := chainF 9 (xs.getD 6 0).toNat ((xs.take (40 + beN xs 4 2)).drop 40) []
theorem getD_take (xs : List UInt8) (m i : Nat) (h : i < m) : (xs.take m).getD i 0 = xs.getD i 0 := by
  simp only [List.getD, List.getElem?_take_of_lt h]
theorem beN_take (xs : List UInt8) (m p : Nat) : ∀ k, p + k ≤ m → beN (xs.take m) p k = beN xs p k
  | 0, _ => rfl
  | k + 1, h => by rw [beN, beN, beN_take xs m p k (by omega), getD_take xs m _ (by omega)]
set_option maxRecDepth 20000 in
set_option maxHeartbeats 4000000 in
theorem quote_any (A : Option Addr) (n c : Nat) (xs : List UInt8) (w : World) (hx : IsB w w.heap.size A n xs) (hnc : n ≤ c) (hcm : c ≤ maxLen) (hnm : n ≤ 1099511627776)
    (cls lab hop shi slo dhi dlo : Nat) (q1 : beN xs 0 4 / 1048576 % 256 = cls) (q2 : beN xs 0 4 % 1048576 = lab) (q3 : (xs.getD 7 0).toNat = hop) (q4 : beN xs 8 8 = shi) (q5 : beN xs 16 8 = slo) (q6 : beN xs 24 8 = dhi) (q7 : beN xs 32 8 = dlo) :
    Calls Try.prog 100 #[.slice A n c] w fun e w' => Ends (quoteK n xs) (quoteR xs) cls lab hop shi slo dhi dlo w w' e := by
  replace q1 := hide q1
  replace q2 := hide q2
  replace q3 := hide q3
  replace q4 := hide q4
  replace q5 := hide q5
  replace q6 := hide q6
  replace q7 := hide q7
  have hbox := blk_new w 98 #[.int .i64 0, .int .i64 0, .int .i64 0, .bool false, .int .u64 0, .int .u64 0, .bool false, .int .u64 0, .int .u64 0, .slice none 0 0, .int .i64 0]
  have hb1 : Below w.heap.size w (w.alloc (hdC 0 0 0 false 0 0 false 0 0 none 0 0 0)) := (Below.refl _ _).alloc (Nat.le_refl _) _
  obtain ⟨w1, hw1⟩ : ∃ w1, w.alloc (hdC 0 0 0 false 0 0 false 0 0 none 0 0 0) = w1 := ⟨_, rfl⟩
  have hlt1 : w.heap.size < w1.heap.size := by rw [← hw1]; simp
  unfold hdC at hw1 hb1
  rw [hw1] at hbox hb1
  have hcg := blk_cell hbox
  have hfg := blk_free hbox
  have hx1 := hx.on hb1
  by_cases h1 : n < 40
  · have e : quoteK n xs = 2 := by unfold quoteK; rw [if_pos h1]
    rw [e]
    replace hbox := hide hbox
    replace hb1 := hide hb1
    replace hx1 := hide hx1
    clear hx e
    go_enter Try.func100, Try.ntmps100
    go_wp2_with fail
    refine bodyPost_ret (v := .tuple #[hd0, .slice none 0 0, .int .i64 2]) (by simp [results, Try.results100, go_sem, hcg]) rfl ⟨fun _ => rfl, (fun h => by cases h), ?_⟩
    iterate 11 refine below_set ?_ (by rfl) _
    exact hb1.out
  obtain ⟨b, off, v0, rfl, hbl, hv0, hv0l, hc0⟩ := hx1.byte (i := 0) (by omega)
  rw [Nat.add_zero] at hc0
  have i0 : 0 < n := by omega
  have k0 : (0 : Int) < (n : Int) := by omega
  by_cases h2 : v0 / 16 = 6
  · have hb : (((v0 : Int) / 16) != 6) = false := by rw [bne_eq_false_iff_eq]; omega
    obtain ⟨R, hR⟩ : ∃ R, chainF 9 (xs.getD 6 0).toNat (xs.drop 40) [] = R := ⟨_, rfl⟩
    have e : quoteK n xs = if R.isNone then 11 else 0 := by unfold quoteK; rw [if_neg h1, if_neg (by omega), hR]
    have e2 : quoteR xs = R := hR
    rw [e, e2]
    have h40 : 40 ≤ n := by omega
    replace hv0 := hide hv0
    replace hR := hide hR
    replace hbox := hide hbox
    replace hb1 := hide hb1
    replace hx1 := hide hx1
    clear hx e e2 h1
    go_enter Try.func100, Try.ntmps100
    go_wp2_with fail
    refine (chain_any _ n c xs _ hx1.out hnc hcm hnm h40 cls lab hop shi slo dhi dlo q1.out q2.out q3.out q4.out q5.out q6.out q7.out R hR.out).mono ?_
    rintro e w2 ⟨hn, hs, hb2⟩
    clear hw1 hcg hfg hc0
    have hg2 := blk_below hb2 hlt1 hbox.out
    have hcg := blk_cell hg2
    have hfg := blk_free hg2
    have hB2 := hb1.out.trans (hb2.mono (Nat.le_of_lt hlt1))
    clear hb2
    replace hg2 := hide hg2
    replace hB2 := hide hB2
    rcases R with _ | ⟨acc, next, rest⟩
    · obtain rfl := hn rfl
      clear hs hn
      go_wp2_with fail
      refine bodyPost_ret (v := .tuple #[hd0, .slice none 0 0, .int .i64 11]) (by simp [results, Try.results100, go_sem, hcg]) rfl ⟨fun _ => rfl, (fun h => by simp at h), ?_⟩
      iterate 11 refine below_set ?_ (by rfl) _
      exact hB2.out
    · obtain ⟨X, xc, es, A2, c2, rfl, hes, hX, hr⟩ := hs acc next rest rfl
      obtain ⟨w8, e8, hg8, hgr8⟩ := set11 hg2.out (.int .i64 cls) (.int .i64 lab) (.int .i64 hop) (.bool true) (.int .u64 shi) (.int .u64 slo) (.bool true) (.int .u64 dhi) (.int .u64 dlo) (.slice X es.length xc) (.int .i64 (next : Int))
      have hX8 := (hX.kept hgr8 hlt1).weaken (Nat.le_of_lt hlt1)
      have hr8 := (OwnB.kept hr hgr8 (own_not hr hlt1)).weaken (Nat.le_of_lt hlt1)
      have hB8 := hB2.out.trans (below_of_grown hgr8 hB2.out.size (by intro k hk; cases hk; exact Nat.le_refl _))
      clear hn hs hX hr hgr8
      replace hX8 := hide hX8
      replace hr8 := hide hr8
      replace hB8 := hide hB8
      replace hes := hide hes
      replace hg8 := hide hg8
      go_wp2_with fail
      have hcg8 := blk_cell hg8.out
      exact bodyPost_ret (v := .tuple #[hdV cls lab hop true shi slo true dhi dlo X es.length xc next, .slice A2 rest.length c2, .int .i64 0]) (by simp [results, Try.results100, go_sem, hcg8]) rfl ⟨fun h => absurd rfl h, fun _ => ⟨acc, next, rest, rfl, X, xc, es, A2, c2, rfl, hes.out, hX8.out, hr8.out⟩, hB8.out⟩
  · have hb : (((v0 : Int) / 16) != 6) = true := by rw [bne_iff_ne]; omega
    have e : quoteK n xs = 10 := by unfold quoteK; rw [if_neg h1, if_pos (by omega)]
    rw [e]
    replace hbox := hide hbox
    replace hb1 := hide hb1
    replace hx1 := hide hx1
    replace hv0 := hide hv0
    clear hx e
    go_enter Try.func100, Try.ntmps100
    go_wp2_with fail
    refine bodyPost_ret (v := .tuple #[hd0, .slice none 0 0, .int .i64 10]) (by simp [results, Try.results100, go_sem, hcg]) rfl ⟨fun _ => rfl, (fun h => by cases h), ?_⟩
    iterate 11 refine below_set ?_ (by rfl) _
    exact hb1.out
end Six
end Go.Proofs.Ytfmmmjaficbchaa
