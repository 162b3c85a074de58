/- tcp.Parse, by contract. Conditions: slices of bytes that read as lists, at most 2^40 bytes. -/
import Derived.Test.YtfmmmjaficbchaaQNatFlows4
import Derived.Test.YtfmmmjaficbchaaQNatFlows3
import Derived.Test.YtfmmmjaficbchaaQNatFlows2
import Derived.Test.YtfmmmjaficbchaaQNatFlows6
import Derived.Deep.DeepCutAuto
namespace Go.Proofs.Ytfmmmjaficbchaa
open Go.RowKit Go.ChangeShapes Go.WideShapes Go.ChangeAt Go.Deep
theorem set8all {w : World} {g : Nat} {t : TypeId} {a0 a1 a2 a3 a4 a5 a6 a7 : Value} (h : w.heap[g]? = some (.cells #[a0, a1, a2, a3, a4, a5, a6, a7] t (0, 0))) (v0 v1 v2 v3 v4 v5 v6 v7 : Value) : ∃ w', ((((((((w.setCell ⟨g, 0, none⟩ v0).setCell ⟨g, 1, none⟩ v1).setCell ⟨g, 2, none⟩ v2).setCell ⟨g, 3, none⟩ v3).setCell ⟨g, 4, none⟩ v4).setCell ⟨g, 5, none⟩ v5).setCell ⟨g, 6, none⟩ v6).setCell ⟨g, 7, none⟩ v7) = w' ∧ w'.heap[g]? = some (.cells #[v0, v1, v2, v3, v4, v5, v6, v7] t (0, 0)) ∧ w.grownBy w' (some g) := by
  refine ⟨_, rfl, ?_, ?_⟩
  · simpa using (blk_set (blk_set (blk_set (blk_set (blk_set (blk_set (blk_set (blk_set h 0 v0) 1 v1) 2 v2) 3 v3) 4 v4) 5 v5) 6 v6) 7 v7)
  · iterate 8 refine grown_set ?_ rfl _
    exact grown_refl _ _
/-- .. as a step of a drawn region. -/
theorem Octet.at_on (pi ki : Int) (p k : Nat) (hpi : pi = (p : Int)) (hki : ki = (k : Int)) (A : Option Addr) (n c : Nat) (xs : List UInt8) (w : World) (hx : IsB w w.heap.size A n xs) (hn : n ≤ maxLen) (hp : p ≤ 4611686018427387904) (hk : k ≤ 8) :
    Calls Try.prog 36 #[.slice A n c, .int .i64 pi, .int .i64 ki] w fun e w' => e = .returned (.int .u64 (beN xs p k : Nat)) ∧ Below w.heap.size w w' :=
  (Octet.at_lit pi ki p k hpi hki A n c xs w hx hn hp hk).mono fun _ _ h => ⟨h.1, h.2 ▸ Below.refl _ _⟩
namespace Tcp
/-- Why bytes are no segment: 0 if they are one. -/
def parseK (ps xs : List UInt8) : Nat :=
  if xs.length < 20 then 2 else if (xs.getD 12 0).toNat / 16 * 4 < 20 ∨ xs.length < (xs.getD 12 0).toNat / 16 * 4 ∨ (xs.getD 12 0).toNat % 16 ≠ 0 then 11 else if Sum.ones (Sum.tot false (ps ++ xs)) = 65535 then 0 else 13
def parseS (K : Nat) (xs : List UInt8) (p : Nat) : Nat := if K = 0 then beN xs p 2 else 0
def parseF (K : Nat) (xs : List UInt8) : Nat := if K = 0 then (xs.getD 13 0).toNat else 0
abbrev hdV (sp dp seq ack fl wn ug : Int) (A : Option Addr) (n c : Nat) : Value := .agg #[.int .i64 sp, .int .i64 dp, .int .u32 seq, .int .u32 ack, .int .i64 fl, .int .i64 wn, .int .i64 ug, .slice A n c]
abbrev hdC (sp dp seq ack fl wn ug : Int) (A : Option Addr) (n c : Nat) : Obj := .cells #[.int .i64 sp, .int .i64 dp, .int .u32 seq, .int .u32 ack, .int .i64 fl, .int .i64 wn, .int .i64 ug, .slice A n c] 88
/-- How it ends. -/
def PEnd (K : Nat) (xs : List UInt8) (w w' : World) (e : Ending) : Prop :=
  ∃ seq ack wn ug A1 n1 c1 A2 n2 c2, e = .returned (.tuple #[hdV (parseS K xs 0 : Nat) (parseS K xs 2 : Nat) seq ack (parseF K xs : Nat) wn ug A1 n1 c1, .slice A2 n2 c2, .int .i64 (K : Int)]) ∧ Below w.heap.size w w'
theorem end_no {K : Nat} {xs : List UInt8} {w w' : World} (h : K ≠ 0) (hb : Below w.heap.size w w') : PEnd K xs w w' (.returned (.tuple #[hdV 0 0 0 0 0 0 0 none 0 0, .slice none 0 0, .int .i64 (K : Int)])) := by
  refine ⟨0, 0, 0, 0, none, 0, 0, none, 0, 0, ?_, hb⟩
  unfold parseS parseF
  rw [if_neg h, if_neg h, if_neg h]
  rfl
set_option maxRecDepth 20000 in
set_option maxHeartbeats 8000000 in
theorem parse_any (A P : Option Addr) (n c m d : Nat) (xs ps : List UInt8) (w : World) (hx : IsB w w.heap.size A n xs) (hp : IsB w w.heap.size P m ps) (hnc : n ≤ c) (hcm : c ≤ maxLen) (hnm : n ≤ 1099511627776) (hm : m ≤ maxLen) (K : Nat) (hK : parseK ps xs = K) :
    Calls Try.prog 84 #[.slice A n c, .slice P m d] w fun e w' => PEnd K xs w w' e := by
  have hxn := hx.1
  have hx1 := hx.alloc (hdC 0 0 0 0 0 0 0 none 0 0)
  have hp1 := hp.alloc (hdC 0 0 0 0 0 0 0 none 0 0)
  have hb0 : Below w.heap.size w (w.alloc (hdC 0 0 0 0 0 0 0 none 0 0)) := (Below.refl _ _).alloc (Nat.le_refl _) _
  unfold hdC at hx1 hp1 hb0
  by_cases h20 : n < 20
  · have hK2 : K = 2 := by rw [← hK]; unfold parseK; rw [if_pos (by omega)]
    subst hK2
    have hfin := end_no (K := 2) (xs := xs) (by omega) hb0
    have t1 : (n : Int) < 20 := by omega
    clear hK hcm
    replace hfin := hide hfin
    replace hx := hide hx
    replace hp := hide hp
    replace hx1 := hide hx1
    replace hp1 := hide hp1
    replace hb0 := hide hb0
    go_enter Try.func84, Try.ntmps84
    go_wp2_with fail
    exact bodyPost_ret (v := .tuple #[hdV 0 0 0 0 0 0 0 none 0 0, .slice none 0 0, .int .i64 2]) (by simp [results, Try.results84, go_sem]) rfl hfin.out
  have t1 : ¬ (n : Int) < 20 := by omega
  obtain ⟨b, off, v12, rfl, hbl, hv12, hv12l, hc12⟩ := hx1.byte (i := 12) (by omega)
  obtain ⟨v13, hv13, hv13l, hc13⟩ := hx1.byteAt (i := 13) (by omega)
  obtain ⟨q, hq⟩ : ∃ q, v12 / 16 = q := ⟨_, rfl⟩
  obtain ⟨s, hs⟩ : ∃ s, q * 4 = s := ⟨_, rfl⟩
  obtain ⟨lo, hlo⟩ : ∃ lo, v12 % 16 = lo := ⟨_, rfl⟩
  have e0 : bits .and .u8 (v12 : Int) 15 = (lo : Int) := by rw [u8_and15 (v12 : Int) (by omega) (by omega)]; omega
  have eq : (v12 : Int) / 16 = (q : Int) := by omega
  have es : (q : Int) * 4 = (s : Int) := by omega
  have hs60 : s ≤ 60 := by omega
  have i12 : (12 : Int) < (n : Int) := by omega
  have i13 : (13 : Int) < (n : Int) := by omega
  obtain ⟨f, hf⟩ : ∃ f, decide (s < 20 ∨ n < s ∨ lo ≠ 0) = f := ⟨_, rfl⟩
  obtain ⟨r, hr⟩ : ∃ r, decide (Sum.ones (Sum.tot false (ps ++ xs)) = 65535) = r := ⟨_, rfl⟩
  have hKf : K = if f = true then 11 else if r = true then 0 else 13 := by
    rw [← hK, ← hf, ← hr]
    unfold parseK
    rw [if_neg (by omega), hv12, hq, hs, hlo, hxn]
    by_cases h1 : s < 20 ∨ n < s ∨ lo ≠ 0
    · rw [if_pos h1, decide_eq_true h1, if_pos rfl]
    · rw [if_neg h1, decide_eq_false h1]
      by_cases h2 : Sum.ones (Sum.tot false (ps ++ xs)) = 65535
      · rw [if_pos h2, decide_eq_true h2]; rfl
      · rw [if_neg h2, decide_eq_false h2]; rfl
  have hr' : decide (Sum.ones (Sum.tot false (Sum.flat [⟨P, d, ps⟩, ⟨some ⟨b, off, none⟩, c, xs⟩])) = 65535) = r := by rw [← hr]; simp [Sum.flat]
  have hsum := Sum.right_any _ 2 2 _ _ (Icmp.isP_two (w.heap.size + 1) (by simp) (t := 22) (c := c) (d := d) hx1 hp1 (by unfold maxLen; omega) hm) (by unfold maxLen; omega) r hr'
  have hcm' := hcm
  unfold maxLen at hcm
  clear hr hr' hK hcm' hq hs hlo
  replace hx := hide hx
  replace hp := hide hp
  replace hx1 := hide hx1
  replace hp1 := hide hp1
  replace hb0 := hide hb0
  replace hv12 := hide hv12
  replace hv13 := hide hv13
  replace hsum := hide hsum
  replace hf := hide hf
  replace hKf := hide hKf
  go_enter Try.func84, Try.ntmps84
  go_upto_region 4 with fail
  go_cut [19] (fun sv wx => sv = .bool f ∧ w.alloc (.cells #[.int .i64 0, .int .i64 0, .int .u32 0, .int .u32 0, .int .i64 0, .int .i64 0, .int .i64 0, .slice none 0 0] 88) = wx)
  case first =>
    have hff := hf.out
    by_cases h1 : s < 20
    · have t2 : (s : Int) < 20 := by omega
      rw [decide_eq_true (.inl h1)] at hff
      go_wp2_with fail
      go_meet
      exact ⟨by first | rfl | rw [hff], rfl⟩
    · have t2 : ¬ (s : Int) < 20 := by omega
      by_cases h2 : n < s
      · have t3 : (n : Int) < (s : Int) := by omega
        rw [decide_eq_true (.inr (.inl h2))] at hff
        go_wp2_with fail
        go_meet
        exact ⟨by first | rfl | rw [hff], rfl⟩
      · have t3 : ¬ (n : Int) < (s : Int) := by omega
        have hfe : f = ((lo : Int) != 0) := by
          rw [← hff]
          by_cases h3 : lo = 0
          · subst h3
            exact decide_eq_false (by omega)
          · rw [decide_eq_true (.inr (.inr h3))]
            exact (bne_iff_ne.2 (by omega)).symm
        obtain ⟨z, hz⟩ : ∃ z, ((lo : Int) != 0) = z := ⟨_, rfl⟩
        rw [hz] at hfe
        clear hff
        replace hfe := hide hfe
        go_wp2_with fail
        go_meet
        exact ⟨by first | rw [hfe.out] | rfl, rfl⟩
  case rest =>
  obtain ⟨rfl, rfl⟩ := hcut
  rcases f with _ | _
  case true =>
    have hK11 : K = 11 := by rw [hKf.out]; rfl
    subst hK11
    have hfin := end_no (K := 11) (xs := xs) (by omega) hb0.out
    clear hc12 hc13
    replace hfin := hide hfin
    go_wp2_with fail
    exact bodyPost_ret (v := .tuple #[hdV 0 0 0 0 0 0 0 none 0 0, .slice none 0 0, .int .i64 11]) (by simp [results, Try.results84, go_sem]) rfl hfin.out
  case false =>
  have hs2 : 20 ≤ s ∧ s ≤ n := by
    have h1 := of_decide_eq_false hf.out
    omega
  obtain ⟨hs2, hs3⟩ := hs2
  go_wp2_with fail
  refine hsum.out.mono ?_
  rintro e w1 ⟨rfl, rfl⟩
  rcases r with _ | _
  case false =>
    have hK13 : K = 13 := by rw [hKf.out]; rfl
    subst hK13
    have hfin := end_no (K := 13) (xs := xs) (by omega) (hb0.out.alloc (by simp) (.cells #[.slice P m d, .slice (some ⟨b, off, none⟩) n c] 22))
    clear hc12 hc13
    replace hfin := hide hfin
    go_wp2_with fail
    exact bodyPost_ret (v := .tuple #[hdV 0 0 0 0 0 0 0 none 0 0, .slice none 0 0, .int .i64 13]) (by simp [results, Try.results84, go_sem]) rfl hfin.out
  case true =>
  have hK0 : K = 0 := by rw [hKf.out]; rfl
  subst hK0
  have hx2' := hx1.out.alloc (.cells #[.slice P m d, .slice (some ⟨b, off, none⟩) n c] 22)
  obtain ⟨w2, hw2⟩ : ∃ w2, (w.alloc (.cells #[.int .i64 0, .int .i64 0, .int .u32 0, .int .u32 0, .int .i64 0, .int .i64 0, .int .i64 0, .slice none 0 0] 88)).alloc (.cells #[.slice P m d, .slice (some ⟨b, off, none⟩) n c] 22) = w2 := ⟨_, rfl⟩
  have hb2 : Below w.heap.size w w2 := hw2 ▸ hb0.out.alloc (by simp) _
  have hg2 : w2.heap[w.heap.size]? = some (.cells #[.int .i64 0, .int .i64 0, .int .u32 0, .int .u32 0, .int .i64 0, .int .i64 0, .int .i64 0, .slice none 0 0] 88 (0, 0)) := hw2 ▸ blk_old _ (by simp) (blk_new _ _ _)
  have hlt2 : w.heap.size < w2.heap.size := by rw [← hw2]; simp; omega
  rw [hw2] at hx2' ⊢
  have hc13' : w2.cell? ⟨b, off + 13, none⟩ = some (.int .u8 (v13 : Int)) := by
    rw [← hw2]
    exact ((Below.refl _ _).alloc (Nat.le_refl _) _ |>.cell hbl).trans hc13
  have hd13 : ∀ l : Later w2, l.w.cell? ⟨b, off + 13, none⟩ = some (.int .u8 (v13 : Int)) := fun l => l.cell hc13'
  clear hw2 hc12 hc13 hsum hx1 hp1 e0 hc13'
  obtain ⟨A2, hA2⟩ : ∃ A2, (if c = 20 then some (⟨b, off, none⟩ : Addr) else some ⟨b, off + 20, none⟩) = A2 := ⟨_, rfl⟩
  obtain ⟨A3, hA3⟩ : ∃ A3, (if c = s then some (⟨b, off, none⟩ : Addr) else some ⟨b, off + s, none⟩) = A3 := ⟨_, rfl⟩
  have hadd : ∀ k, 0 < k → (⟨b, off, none⟩ : Addr).add k = ⟨b, off + k, none⟩ := fun k hk => by unfold Addr.add; rw [if_neg (by omega)]
  have hxo : IsB w2 w2.heap.size A2 (s - 20) ((xs.take s).drop 20) := by
    have h := hx2'.cut (k := 20) (m := s) (cap := c) hs2 hs3 hnc
    rw [Option.map_some, hadd 20 (by omega), hA2] at h
    exact h
  have hxr : IsB w2 w2.heap.size A3 (n - s) ((xs.take n).drop s) := by
    have h := hx2'.cut (k := s) (m := n) (cap := c) hs3 (Nat.le_refl _) hnc
    rw [Option.map_some, hadd s (by omega), hA3] at h
    exact h
  have b0 := beN_lt xs 0 2
  have b2 := beN_lt xs 2 2
  rw [show 256 ^ 2 = 65536 from rfl] at b0 b2
  have j0 := fun l : Later w2 => Octet.at_on 0 2 0 2 rfl rfl _ n c xs l.w (hx2'.later l) (by unfold maxLen; omega) (by omega) (by omega)
  have j2 := fun l : Later w2 => Octet.at_on 2 2 2 2 rfl rfl _ n c xs l.w (hx2'.later l) (by unfold maxLen; omega) (by omega) (by omega)
  have j4 := fun l : Later w2 => Octet.at_on 4 4 4 4 rfl rfl _ n c xs l.w (hx2'.later l) (by unfold maxLen; omega) (by omega) (by omega)
  have j8 := fun l : Later w2 => Octet.at_on 8 4 8 4 rfl rfl _ n c xs l.w (hx2'.later l) (by unfold maxLen; omega) (by omega) (by omega)
  have j14 := fun l : Later w2 => Octet.at_on 14 2 14 2 rfl rfl _ n c xs l.w (hx2'.later l) (by unfold maxLen; omega) (by omega) (by omega)
  have j18 := fun l : Later w2 => Octet.at_on 18 2 18 2 rfl rfl _ n c xs l.w (hx2'.later l) (by unfold maxLen; omega) (by omega) (by omega)
  obtain ⟨s0, hs0⟩ : ∃ N, beN xs 0 2 = N := ⟨_, rfl⟩
  obtain ⟨s2, hs22⟩ : ∃ N, beN xs 2 2 = N := ⟨_, rfl⟩
  obtain ⟨x4, hx4⟩ : ∃ N, beN xs 4 4 = N := ⟨_, rfl⟩
  obtain ⟨x8, hx8⟩ : ∃ N, beN xs 8 4 = N := ⟨_, rfl⟩
  obtain ⟨x14, hx14⟩ : ∃ N, beN xs 14 2 = N := ⟨_, rfl⟩
  obtain ⟨x18, hx18⟩ : ∃ N, beN xs 18 2 = N := ⟨_, rfl⟩
  simp only [hs0] at j0
  simp only [hs22] at j2
  simp only [hx4] at j4
  simp only [hx8] at j8
  simp only [hx14] at j14
  simp only [hx18] at j18
  rw [hs0] at b0
  rw [hs22] at b2
  have ts1 : (20 : Int) ≤ (s : Int) := by omega
  have ts2 : (s : Int) ≤ (n : Int) := by omega
  have ts3 : (n : Int) ≤ (c : Int) := by omega
  have ts4 : s ≤ c := by omega
  have ts5 : (s : Int) ≤ (c : Int) := by omega
  clear hadd hx4 hx8 hx14 hx18
  replace hx2' := hide hx2'
  replace hb2 := hide hb2
  replace hg2 := hide hg2
  replace hxo := hide hxo
  replace hxr := hide hxr
  replace hs0 := hide hs0
  replace hs22 := hide hs22
  replace j0 := hide j0
  replace j2 := hide j2
  replace j4 := hide j4
  replace j8 := hide j8
  replace j14 := hide j14
  replace j18 := hide j18
  go_upto_region 8 with fail
  go_cut [8] (fun tv wx => ∃ g w5 sq ak wn ug A' n' c', tv = .pointer (some ⟨g, 0, none⟩) ∧ w5.heap[g]? = some (.cells #[.int .i64 (s0 : Int), .int .i64 (s2 : Int), .int .u32 sq, .int .u32 ak, .int .i64 (v13 : Int), .int .i64 wn, .int .i64 ug, .slice A' n' c'] 88 (0, 0)) ∧ w2.heap.size ≤ g ∧ g < w5.heap.size ∧ Below w2.heap.size w2 w5 ∧ w5 = wx)
  case first =>
    refine wp_region_L (by as_aux_lemma => kernel_rfl) ?_
    refine wpE_seg 0 25 (fuel := 4) (by as_aux_lemma => kernel_rfl) (fun d _ _ _ _ h => by cases d <;> exact h) (by as_aux_lemma => kernel_rfl) (by as_aux_lemma => kernel_rfl) ?_
    simp only [List.drop_zero, List.take_succ_cons, List.take_zero]
    iterate 1 (refine wpQE_step (fun K hK => ?_); go_simp; refine hK _ ?_; clear hK K)
    (refine wpQE_step (fun K hK => ?_); go_simp; apply Exists.intro; refine ⟨fun l => ?_, hK _ ?_⟩; (go_at_call 36; refine (j0.out l).mono ?_; rintro e w' ⟨rfl, hb⟩; exact ⟨rfl, hb⟩); clear hK K)
    iterate 2 (refine wpQE_step (fun K hK => ?_); go_simp; refine hK _ ?_; clear hK K)
    (refine wpQE_step (fun K hK => ?_); go_simp; apply Exists.intro; refine ⟨fun l => ?_, hK _ ?_⟩; (go_at_call 36; refine (j2.out l).mono ?_; rintro e w' ⟨rfl, hb⟩; exact ⟨rfl, hb⟩); clear hK K)
    iterate 2 (refine wpQE_step (fun K hK => ?_); go_simp; refine hK _ ?_; clear hK K)
    (refine wpQE_step (fun K hK => ?_); go_simp; apply Exists.intro; refine ⟨fun l => ?_, hK _ ?_⟩; (go_at_call 36; refine (j4.out l).mono ?_; rintro e w' ⟨rfl, hb⟩; exact ⟨rfl, hb⟩); clear hK K)
    iterate 2 (refine wpQE_step (fun K hK => ?_); go_simp; refine hK _ ?_; clear hK K)
    (refine wpQE_step (fun K hK => ?_); go_simp; apply Exists.intro; refine ⟨fun l => ?_, hK _ ?_⟩; (go_at_call 36; refine (j8.out l).mono ?_; rintro e w' ⟨rfl, hb⟩; exact ⟨rfl, hb⟩); clear hK K)
    iterate 6 (refine wpQE_step (fun K hK => ?_); go_simp; refine hK _ ?_; clear hK K)
    (refine wpQE_step (fun K hK => ?_); go_simp; apply Exists.intro; refine ⟨fun l => ?_, hK _ ?_⟩; (go_at_call 36; refine (j14.out l).mono ?_; rintro e w' ⟨rfl, hb⟩; exact ⟨rfl, hb⟩); clear hK K)
    iterate 2 (refine wpQE_step (fun K hK => ?_); go_simp; refine hK _ ?_; clear hK K)
    (refine wpQE_step (fun K hK => ?_); go_simp; apply Exists.intro; refine ⟨fun l => ?_, hK _ ?_⟩; (go_at_call 36; refine (j18.out l).mono ?_; rintro e w' ⟨rfl, hb⟩; exact ⟨rfl, hb⟩); clear hK K)
    iterate 4 (refine wpQE_step (fun K hK => ?_); go_simp; refine hK _ ?_; clear hK K)
    refine wpQE_nil ?_
    have q0 : IntKind.i64.wrap (s0 : Int) = (s0 : Int) := wraps62 _ (by omega) (by omega)
    have q2 : IntKind.i64.wrap (s2 : Int) = (s2 : Int) := wraps62 _ (by omega) (by omega)
    have q13 : IntKind.i64.wrap (v13 : Int) = (v13 : Int) := wraps62 _ (by omega) (by omega)
    rw [q0, q2, q13]
    clear hd13 q0 q2 q13 j0 j2 j4 j8 j14 j18
    have hxol : s - 20 ≤ 1099511627776 := by omega
    refine wpE_two 25 27 (fuel := 3) rfl rfl (by as_aux_lemma => kernel_rfl) (fun w3 hw3 K hK => ?_) (fun w3 hw3 K hK => ?_)
    · go_simp
      go_at_call 83
      refine (clone_any _ _ _ _ _ (hxo.out.on hw3) hxol).mono ?_
      rintro e w4 ⟨v, rfl, hown, hb4⟩
      obtain ⟨A', c', rfl, hc', hm', hi'⟩ := hown.form
      refine hK _ _ hb4 ?_
      clear hK K hown hi'
      refine wpE_seg 26 1 (fuel := 2) (by as_aux_lemma => kernel_rfl) (fun d _ _ _ _ h => by cases d <;> exact h) (by as_aux_lemma => kernel_rfl) (by as_aux_lemma => kernel_rfl) ?_
      simp only [List.drop_succ_cons, List.drop_zero, List.take_succ_cons, List.take_zero]
      iterate 1 (refine wpQE_step (fun K hK => ?_); go_simp; refine hK _ ?_; clear hK K)
      refine wpQE_nil ?_
      refine wpE_step 27 (fuel := 1) rfl (by as_aux_lemma => kernel_rfl) (fun l K hK => ?_)
      go_simp
      have zw3 := hw3.size
      have z4 := hb4.size
      have zl := l.hb.size
      have hbl2 : Below l.w.heap.size l.w (l.w.alloc (.cells #[.int .i64 0, .int .i64 0, .int .u32 0, .int .u32 0, .int .i64 0, .int .i64 0, .int .i64 0, .slice none 0 0] 88)) := (Below.refl _ _).alloc (Nat.le_refl _) _
      have hg27 := blk_new l.w 88 #[.int .i64 0, .int .i64 0, .int .u32 0, .int .u32 0, .int .i64 0, .int .i64 0, .int .i64 0, .slice none 0 0]
      have hz27 : l.w.heap.size < (l.w.alloc (.cells #[.int .i64 0, .int .i64 0, .int .u32 0, .int .u32 0, .int .i64 0, .int .i64 0, .int .i64 0, .slice none 0 0] 88)).heap.size := by simp
      refine hK _ _ hbl2 ?_
      clear hK K
      generalize l.w.alloc (.cells #[.int .i64 0, .int .i64 0, .int .u32 0, .int .u32 0, .int .i64 0, .int .i64 0, .int .i64 0, .slice none 0 0] 88) = w6 at hbl2 hg27 hz27 ⊢
      refine wpE_end (by as_aux_lemma => kernel_rfl) (fun l2 => ?_)
      have zl2 := l2.hb.size
      have hg28 := blk_below l2.hb hz27 hg27
      have hBl : Below w2.heap.size w2 l2.w := (((hw3.trans (hb4.mono zw3)).trans (l.hb.mono (by omega))).trans (hbl2.mono (by omega))).trans (l2.hb.mono (by omega))
      have hcg := blk_cell hg28
      have hfg := blk_free hg28
      obtain ⟨w8, e8, hg8, g8⟩ := set8all hg28 (.int .i64 (s0 : Int)) (.int .i64 (s2 : Int)) (.int .u32 (IntKind.u32.wrap (x4 : Int))) (.int .u32 (IntKind.u32.wrap (x8 : Int))) (.int .i64 (v13 : Int)) (.int .i64 (IntKind.i64.wrap (x14 : Int))) (.int .i64 (IntKind.i64.wrap (x18 : Int))) (.slice A' (s - 20) c')
      have hB8 := hBl.trans (below_grown g8 (by omega) (by omega))
      have z8 := g8.size
      clear g8 hBl
      replace hg28 := hide hg28
      replace hg8 := hide hg8
      replace hB8 := hide hB8
      refine wpT_step 28 rfl (by as_aux_lemma => kernel_rfl) (fun K hK => ?_)
      go_simp
      refine hK _ _ ?_
      clear hK K hcg hfg e8
      refine wpT_done (by as_aux_lemma => kernel_rfl) ?_ 0
      go_wp2_with fail
      go_meet
      exact ⟨_, w8, _, _, _, _, _, _, _, rfl, hg8.out, by omega, by omega, hB8.out, rfl⟩
    · go_simp
      have zw3 := hw3.size
      have hbl2 : Below w3.heap.size w3 (w3.alloc (.cells #[.int .i64 0, .int .i64 0, .int .u32 0, .int .u32 0, .int .i64 0, .int .i64 0, .int .i64 0, .slice none 0 0] 88)) := (Below.refl _ _).alloc (Nat.le_refl _) _
      have hg27 := blk_new w3 88 #[.int .i64 0, .int .i64 0, .int .u32 0, .int .u32 0, .int .i64 0, .int .i64 0, .int .i64 0, .slice none 0 0]
      have hz27 : w3.heap.size < (w3.alloc (.cells #[.int .i64 0, .int .i64 0, .int .u32 0, .int .u32 0, .int .i64 0, .int .i64 0, .int .i64 0, .slice none 0 0] 88)).heap.size := by simp
      refine hK _ _ hbl2 ?_
      clear hK K
      generalize w3.alloc (.cells #[.int .i64 0, .int .i64 0, .int .u32 0, .int .u32 0, .int .i64 0, .int .i64 0, .int .i64 0, .slice none 0 0] 88) = w4 at hbl2 hg27 hz27 ⊢
      refine wpE_step 25 (fuel := 2) rfl (by as_aux_lemma => kernel_rfl) (fun l K hK => ?_)
      go_simp
      go_at_call 83
      refine (clone_any _ _ _ _ _ (((hxo.out.on hw3).on hbl2).later l) hxol).mono ?_
      rintro e w6 ⟨v, rfl, hown, hb6⟩
      obtain ⟨A', c', rfl, hc', hm', hi'⟩ := hown.form
      refine hK _ _ hb6 ?_
      clear hK K hown hi'
      refine wpE_seg 26 1 (fuel := 1) (by as_aux_lemma => kernel_rfl) (fun d _ _ _ _ h => by cases d <;> exact h) (by as_aux_lemma => kernel_rfl) (by as_aux_lemma => kernel_rfl) ?_
      simp only [List.drop_succ_cons, List.drop_zero, List.take_succ_cons, List.take_zero]
      iterate 1 (refine wpQE_step (fun K hK => ?_); go_simp; refine hK _ ?_; clear hK K)
      refine wpQE_nil ?_
      refine wpE_end (by as_aux_lemma => kernel_rfl) (fun l2 => ?_)
      have zl := l.hb.size
      have z6 := hb6.size
      have zl2 := l2.hb.size
      have hg28 := blk_below l2.hb (by omega) (blk_below hb6 (by omega) (blk_below l.hb hz27 hg27))
      have hBl : Below w2.heap.size w2 l2.w := (((hw3.trans (hbl2.mono zw3)).trans (l.hb.mono (by omega))).trans (hb6.mono (by omega))).trans (l2.hb.mono (by omega))
      have hcg := blk_cell hg28
      have hfg := blk_free hg28
      obtain ⟨w8, e8, hg8, g8⟩ := set8all hg28 (.int .i64 (s0 : Int)) (.int .i64 (s2 : Int)) (.int .u32 (IntKind.u32.wrap (x4 : Int))) (.int .u32 (IntKind.u32.wrap (x8 : Int))) (.int .i64 (v13 : Int)) (.int .i64 (IntKind.i64.wrap (x14 : Int))) (.int .i64 (IntKind.i64.wrap (x18 : Int))) (.slice A' (s - 20) c')
      have hB8 := hBl.trans (below_grown g8 (by omega) (by omega))
      have z8 := g8.size
      clear g8 hBl
      replace hg28 := hide hg28
      replace hg8 := hide hg8
      replace hB8 := hide hB8
      refine wpT_step 28 rfl (by as_aux_lemma => kernel_rfl) (fun K hK => ?_)
      go_simp
      refine hK _ _ ?_
      clear hK K hcg hfg e8
      refine wpT_done (by as_aux_lemma => kernel_rfl) ?_ 0
      go_wp2_with fail
      go_meet
      exact ⟨_, w8, _, _, _, _, _, _, _, rfl, hg8.out, by omega, by omega, hB8.out, rfl⟩
  case rest =>
  obtain ⟨g, w5, sq, ak, wn, ug, A', n', c', rfl, hg5, hgl, hgl2, hb5, rfl⟩ := hcut
  have z5 := hb5.size
  have hB5 := hb2.out.trans (hb5.mono (by omega))
  have hg05 := blk_below hb5 hlt2 hg2.out
  have hxr5 := hxr.out.on hb5
  have hcl := fun (l : Later w5) (o : Nat) => blk_cell (blk_below l.hb hgl2 hg5) o
  have hnl : n - s ≤ 1099511627776 := by omega
  clear hd13 j0 j2 j4 j8 j14 j18
  replace hg5 := hide hg5
  replace hB5 := hide hB5
  replace hg05 := hide hg05
  replace hxr5 := hide hxr5
  replace hb5 := hide hb5
  go_upto_region 9 with fail
  refine wp_region_L (by as_aux_lemma => kernel_rfl) ?_
  refine wpE_seg 0 4 (fuel := 4) (by as_aux_lemma => kernel_rfl) (fun d _ _ _ _ h => by cases d <;> exact h) (by as_aux_lemma => kernel_rfl) (by as_aux_lemma => kernel_rfl) ?_
  simp only [List.drop_zero, List.take_succ_cons, List.take_zero]
  iterate 4 (refine wpQE_step (fun K hK => ?_); go_simp; refine hK _ ?_; clear hK K)
  refine wpQE_nil ?_
  clear hcl
  refine wpE_step 4 (fuel := 3) rfl (by as_aux_lemma => kernel_rfl) (fun l K hK => ?_)
  go_simp
  go_at_call 83
  refine (clone_any _ _ _ _ _ (hxr5.out.later l) hnl).mono ?_
  rintro e w6 ⟨v, rfl, hown, hb6⟩
  obtain ⟨A7, c7, rfl, _, _, _⟩ := hown.form
  refine hK _ _ hb6 ?_
  clear hK K hown
  refine wpE_end (by as_aux_lemma => kernel_rfl) (fun l2 => ?_)
  have zl := l.hb.size
  have z6 := hb6.size
  have zl2 := l2.hb.size
  have hg06 := blk_below l2.hb (by omega) (blk_below hb6 (by omega) (blk_below l.hb (by omega) hg05.out))
  have hB6 := ((hB5.out.trans (l.hb.mono (by omega))).trans (hb6.mono (by omega))).trans (l2.hb.mono (by omega))
  have hcg := blk_cell hg06
  have hfg := blk_free hg06
  obtain ⟨w8, e8, hg8, g8⟩ := set8all hg06 (.int .i64 (s0 : Int)) (.int .i64 (s2 : Int)) (.int .u32 sq) (.int .u32 ak) (.int .i64 (v13 : Int)) (.int .i64 wn) (.int .i64 ug) (.slice A' n' c')
  have hB8 := hB6.trans (below_grown g8 (by omega) (Nat.le_refl _))
  have hcr := blk_cell hg8
  clear g8 hB6
  replace hg06 := hide hg06
  replace hg8 := hide hg8
  replace hB8 := hide hB8
  refine wpT_step 5 rfl (by as_aux_lemma => kernel_rfl) (fun K hK => ?_)
  go_simp
  refine hK _ _ ?_
  clear hK K hcg hfg e8
  refine wpT_step 6 rfl (by as_aux_lemma => kernel_rfl) (fun K hK => ?_)
  go_simp
  refine hK _ _ ?_
  clear hK K
  refine wpT_step 7 rfl (by as_aux_lemma => kernel_rfl) (fun K hK => ?_)
  go_simp
  refine hK _ _ ?_
  clear hK K
  refine wpT_done (by as_aux_lemma => kernel_rfl) ?_ 0
  go_wp2_with fail
  refine bodyPost_ret (v := .tuple #[hdV (s0 : Int) (s2 : Int) sq ak (v13 : Int) wn ug A' n' c', .slice A7 (n - s) c7, .int .i64 0]) (by simp [results, Try.results84, go_sem, hcr]) rfl ⟨sq, ak, wn, ug, A', n', c', A7, n - s, c7, ?_, hB8.out⟩
  unfold parseS parseF
  rw [if_pos rfl, if_pos rfl, if_pos rfl, hs0.out, hs22.out, hv13.out]
  rfl
end Tcp
end Go.Proofs.Ytfmmmjaficbchaa
/- Plain law: a header that was parsed, as bytes again, is what it was parsed of, but for its check. Conditions: bytes that are a packet. -/
namespace Go.Proofs.Ytfmmmjaficbchaa
namespace Four
theorem be_two (a b : UInt8) : beB (a.toNat * 256 + b.toNat) 2 = [a, b] := by
  have hb := b.toNat_lt
  have ha := a.toNat_lt
  simp only [beB, Nat.pow_one, Nat.pow_zero, Nat.div_one]
  congr 1
  · apply UInt8.toNat_inj.1; rw [UInt8.toNat_ofNat']; omega
  · congr 1
    apply UInt8.toNat_inj.1; rw [UInt8.toNat_ofNat']; omega
theorem be_four (a b c d : UInt8) : beB (((a.toNat * 256 + b.toNat) * 256 + c.toNat) * 256 + d.toNat) 4 = [a, b, c, d] := by
  rw [beB_four]
  have hb := b.toNat_lt
  have ha := a.toNat_lt
  have hc := c.toNat_lt
  have hd := d.toNat_lt
  rw [show (((a.toNat * 256 + b.toNat) * 256 + c.toNat) * 256 + d.toNat) / 65536 = a.toNat * 256 + b.toNat by omega, show (((a.toNat * 256 + b.toNat) * 256 + c.toNat) * 256 + d.toNat) % 65536 = c.toNat * 256 + d.toNat by omega, be_two, be_two]
  rfl
theorem cons_of {n : Nat} {xs : List UInt8} (h : n + 1 ≤ xs.length) : ∃ a tl, xs = a :: tl ∧ n ≤ tl.length := by
  rcases xs with _ | ⟨a, tl⟩
  · simp at h
  · exact ⟨a, tl, rfl, by simpa using h⟩
theorem cut20 (xs : List UInt8) (h : 20 ≤ xs.length) : ∃ x0 x1 x2 x3 x4 x5 x6 x7 x8 x9 x10 x11 x12 x13 x14 x15 x16 x17 x18 x19 tl, xs = x0 :: x1 :: x2 :: x3 :: x4 :: x5 :: x6 :: x7 :: x8 :: x9 :: x10 :: x11 :: x12 :: x13 :: x14 :: x15 :: x16 :: x17 :: x18 :: x19 :: tl := by
  obtain ⟨x0, t0, rfl, h0⟩ := cons_of (n := 19) h
  obtain ⟨x1, t1, rfl, h1⟩ := cons_of (n := 18) h0
  obtain ⟨x2, t2, rfl, h2⟩ := cons_of (n := 17) h1
  obtain ⟨x3, t3, rfl, h3⟩ := cons_of (n := 16) h2
  obtain ⟨x4, t4, rfl, h4⟩ := cons_of (n := 15) h3
  obtain ⟨x5, t5, rfl, h5⟩ := cons_of (n := 14) h4
  obtain ⟨x6, t6, rfl, h6⟩ := cons_of (n := 13) h5
  obtain ⟨x7, t7, rfl, h7⟩ := cons_of (n := 12) h6
  obtain ⟨x8, t8, rfl, h8⟩ := cons_of (n := 11) h7
  obtain ⟨x9, t9, rfl, h9⟩ := cons_of (n := 10) h8
  obtain ⟨x10, t10, rfl, h10⟩ := cons_of (n := 9) h9
  obtain ⟨x11, t11, rfl, h11⟩ := cons_of (n := 8) h10
  obtain ⟨x12, t12, rfl, h12⟩ := cons_of (n := 7) h11
  obtain ⟨x13, t13, rfl, h13⟩ := cons_of (n := 6) h12
  obtain ⟨x14, t14, rfl, h14⟩ := cons_of (n := 5) h13
  obtain ⟨x15, t15, rfl, h15⟩ := cons_of (n := 4) h14
  obtain ⟨x16, t16, rfl, h16⟩ := cons_of (n := 3) h15
  obtain ⟨x17, t17, rfl, h17⟩ := cons_of (n := 2) h16
  obtain ⟨x18, t18, rfl, h18⟩ := cons_of (n := 1) h17
  obtain ⟨x19, t19, rfl, h19⟩ := cons_of (n := 0) h18
  exact ⟨x0, x1, x2, x3, x4, x5, x6, x7, x8, x9, x10, x11, x12, x13, x14, x15, x16, x17, x18, x19, t19, rfl⟩
/-- The bytes again, but for the check. -/
theorem again (xs : List UInt8) (s al : Nat) (h20 : 20 ≤ xs.length) (hv : (xs.getD 0 0).toNat / 16 = 4) (hs : (xs.getD 0 0).toNat % 16 * 4 = s) (h5 : 20 ≤ s) (h6 : s ≤ xs.length) (hal : beN xs 2 2 = al) (h8 : s ≤ al) (h9 : al ≤ xs.length) :
    ∃ a b : UInt8, hdB (xs.getD 1 0).toNat (beN xs 4 2) (beN xs 6 2) (xs.getD 8 0).toNat (xs.getD 9 0).toNat (beN xs 12 4) (beN xs 16 4) ((xs.take s).drop 20) (al - s) ++ (xs.take al).drop s = ((xs.take al).set 10 a).set 11 b := by
  obtain ⟨C, hC⟩ : ∃ C, 65535 - Sum.ones (Sum.tot false (hdB0 (xs.getD 1 0).toNat (beN xs 4 2) (beN xs 6 2) (xs.getD 8 0).toNat (xs.getD 9 0).toNat (beN xs 12 4) (beN xs 16 4) ((xs.take s).drop 20) (al - s))) = C := ⟨_, rfl⟩
  refine ⟨UInt8.ofNat (C / 256), UInt8.ofNat C, ?_⟩
  rw [hdB_set _ _ _ _ _ _ _ _ _ _ hC]
  clear hC
  obtain ⟨x0, x1, x2, x3, x4, x5, x6, x7, x8, x9, x10, x11, x12, x13, x14, x15, x16, x17, x18, x19, tl, rfl⟩ := cut20 xs h20
  obtain ⟨t, rfl⟩ : ∃ t, s = t + 20 := ⟨s - 20, by omega⟩
  obtain ⟨m, rfl⟩ : ∃ m, al = m + t + 20 := ⟨al - t - 20, by omega⟩
  simp only [List.getD_cons_zero] at hv hs
  have htl : t ≤ tl.length := by simp at h6; omega
  have hol : (((x0 :: x1 :: x2 :: x3 :: x4 :: x5 :: x6 :: x7 :: x8 :: x9 :: x10 :: x11 :: x12 :: x13 :: x14 :: x15 :: x16 :: x17 :: x18 :: x19 :: tl).take (t + 20)).drop 20).length = t := by
    rw [List.length_drop, List.length_take]; simp; omega
  have e0 : UInt8.ofNat (64 + (20 + t) / 4) = x0 := by
    apply UInt8.toNat_inj.1
    rw [UInt8.toNat_ofNat']
    omega
  have e2 : beB (m + t + 20) 2 = [x2, x3] := by
    rw [← hal]
    simp only [beN, List.getD_cons_zero, List.getD_cons_succ, Nat.zero_mul, Nat.zero_add, Nat.add_zero, Nat.reduceAdd]
    exact be_two _ _
  unfold hdB0
  rw [hol, e0, show 20 + t + (m + t + 20 - (t + 20)) = m + t + 20 by omega, e2]
  simp only [beN, List.getD_cons_zero, List.getD_cons_succ, Nat.zero_mul, Nat.zero_add, Nat.add_zero, Nat.reduceAdd]
  rw [be_two, be_two, be_four, be_four]
  have e1 : UInt8.ofNat x1.toNat = x1 := by simp
  have e8 : UInt8.ofNat x8.toNat = x8 := by simp
  have e9 : UInt8.ofNat x9.toNat = x9 := by simp
  rw [e1, e8, e9]
  simp only [List.cons_append, List.nil_append, List.set_cons_zero, List.set_cons_succ, List.take_succ_cons, List.drop_succ_cons, List.drop_zero]
  have e3 : tl.take t ++ (tl.take (m + t)).drop t = tl.take (m + t) := by
    conv => rhs; rw [← List.take_append_drop t (tl.take (m + t)), List.take_take, Nat.min_eq_left (by omega)]
  rw [e3]
theorem again_get (ys zs : List UInt8) (a b : UInt8) (h : ys = (zs.set 10 a).set 11 b) (i : Nat) (h10 : i ≠ 10) (h11 : i ≠ 11) : ys[i]? = zs[i]? := by
  subst h
  rw [List.getElem?_set_ne (by omega), List.getElem?_set_ne (by omega)]
theorem flI_raw (fl : Nat) (h : fl / 32768 = 0) : flI (decide (fl / 16384 % 2 = 1)) (decide (fl / 8192 % 2 = 1)) (fl % 8192) = (fl : Int) := by
  unfold flI
  by_cases h1 : fl / 16384 % 2 = 1 <;> by_cases h2 : fl / 8192 % 2 = 1 <;> simp [h1, h2] <;> omega
end Four
end Go.Proofs.Ytfmmmjaficbchaa
