/- udp.Parse, by contract. Conditions: slices of bytes that read as lists, at most 2^40 bytes. -/
import Derived.Test.YtdmgbngdpjcliaaQPktBig4
import Derived.Test.YtdmgbngdpjcliaaQPktBig3
import Derived.Test.YtdmgbngdpjcliaaQPktBig1
import Derived.Test.YtdmgbngdpjcliaaQPktBig2
import Derived.Deep.DeepCutAuto
import Derived.Handy
namespace Go.Proofs.Ytdmgbngdpjcliaa
open Go.RowKit Go.ChangeShapes Go.WideShapes Go.ChangeAt Go.Deep
namespace Udp
/-- Why bytes are no datagram: 0 if they are one. -/
def parseK (bare : Bool) (ps xs : List UInt8) : Nat :=
  if xs.length < 8 then 2 else if beN xs 4 2 ≠ xs.length then 12 else if beN xs 6 2 = 0 then (if bare = true then 0 else 13) else if Sum.ones (Sum.tot false (ps ++ xs)) = 65535 then 0 else 13
def parseS (K : Nat) (xs : List UInt8) (p : Nat) : Nat := if K = 0 then beN xs p 2 else 0
def parseB (K : Nat) (xs : List UInt8) : Bool := decide (K = 0 ∧ beN xs 6 2 = 0)
def parseR (K : Nat) (xs : List UInt8) : List UInt8 := if K = 0 then xs.drop 8 else []
/-- How it ends. -/
def PEnd (K : Nat) (xs : List UInt8) (w w' : World) (e : Ending) : Prop :=
  ∃ A' m' c', e = .returned (.tuple #[.agg #[.int .i64 (parseS K xs 0 : Nat), .int .i64 (parseS K xs 2 : Nat), .bool (parseB K xs)], .slice A' m' c', .int .i64 (K : Int)]) ∧ IsB w' w'.heap.size A' m' (parseR K xs) ∧ m' ≤ c' ∧ c' ≤ maxLen ∧ Below w.heap.size w w'
theorem end_no {K : Nat} {xs : List UInt8} {w w' : World} (h : K ≠ 0) (hb : Below w.heap.size w w') : PEnd K xs w w' (.returned (.tuple #[.agg #[.int .i64 0, .int .i64 0, .bool false], .slice none 0 0, .int .i64 (K : Int)])) := by
  refine ⟨none, 0, 0, ?_, ?_, Nat.le_refl _, by unfold maxLen; omega, hb⟩
  · unfold parseS parseB
    rw [if_neg h, if_neg h, decide_eq_false (fun hh => h hh.1)]
    rfl
  · unfold parseR
    rw [if_neg h]
    exact IsB.nil _ _ _
set_option maxRecDepth 20000 in
set_option maxHeartbeats 8000000 in
theorem parse_any (A P : Option Addr) (n c m d : Nat) (xs ps : List UInt8) (bare : Bool) (w : World) (hx : IsB w w.heap.size A n xs) (hp : IsB w w.heap.size P m ps) (hnc : n ≤ c) (hcm : c ≤ maxLen) (hnm : n ≤ 1099511627776) (hm : m ≤ maxLen) (K : Nat) (hK : parseK bare ps xs = K) :
    Calls Try.prog 62 #[.slice A n c, .slice P m d, .bool bare] w fun e w' => PEnd K xs w w' e := by
  have hxn := hx.1
  have hx1 := hx.alloc (.cells #[.int .i64 0, .int .i64 0, .bool false] 96)
  have hp1 := hp.alloc (.cells #[.int .i64 0, .int .i64 0, .bool false] 96)
  have hb0 : Below w.heap.size w (w.alloc (.cells #[.int .i64 0, .int .i64 0, .bool false] 96)) := (Below.refl _ _).alloc (Nat.le_refl _) _
  by_cases h8 : n < 8
  · have hK2 : K = 2 := by rw [← hK]; unfold parseK; rw [if_pos (by omega)]
    subst hK2
    have hfin := end_no (K := 2) (xs := xs) (by omega) hb0
    have t1 : (n : Int) < 8 := by omega
    clear hK hcm
    replace hfin := hide hfin
    replace hx := hide hx
    replace hp := hide hp
    replace hx1 := hide hx1
    replace hp1 := hide hp1
    replace hb0 := hide hb0
    go_enter Try.func62, Try.ntmps62
    go_wp2_with fail
    exact bodyPost_ret (v := .tuple #[.agg #[.int .i64 0, .int .i64 0, .bool false], .slice none 0 0, .int .i64 2]) (by simp [results, Try.results62, go_sem]) rfl hfin.out
  have t1 : ¬ (n : Int) < 8 := by omega
  have hcm' := hcm
  unfold maxLen at hcm
  have b4 := beN_lt xs 4 2
  have b0 := beN_lt xs 0 2
  have b2 := beN_lt xs 2 2
  have b6 := beN_lt xs 6 2
  have e2 : 256 ^ 2 = 65536 := rfl
  rw [e2] at b4 b0 b2 b6
  have hA4 := Octet.at_lit 4 2 4 2 rfl rfl A n c xs _ hx1 (by unfold maxLen; omega) (by omega) (by omega)
  have hA0 := Octet.at_lit 0 2 0 2 rfl rfl A n c xs _ hx1 (by unfold maxLen; omega) (by omega) (by omega)
  have hA2 := Octet.at_lit 2 2 2 2 rfl rfl A n c xs _ hx1 (by unfold maxLen; omega) (by omega) (by omega)
  have hA6 := Octet.at_lit 6 2 6 2 rfl rfl A n c xs _ hx1 (by unfold maxLen; omega) (by omega) (by omega)
  obtain ⟨N, hN⟩ : ∃ N, beN xs 4 2 = N := ⟨_, rfl⟩
  obtain ⟨s0, hs0⟩ : ∃ N, beN xs 0 2 = N := ⟨_, rfl⟩
  obtain ⟨s2, hs2⟩ : ∃ N, beN xs 2 2 = N := ⟨_, rfl⟩
  obtain ⟨s6, hs6⟩ : ∃ N, beN xs 6 2 = N := ⟨_, rfl⟩
  rw [hN] at hA4 b4
  rw [hs0] at hA0 b0
  rw [hs2] at hA2 b2
  rw [hs6] at hA6 b6
  by_cases hne : N = n
  case neg =>
    have hK12 : K = 12 := by rw [← hK]; unfold parseK; rw [if_neg (by omega), if_pos (by omega)]
    subst hK12
    have hfin := end_no (K := 12) (xs := xs) (by omega) hb0
    have t2 : ((N : Int) == (n : Int)) = false := by rw [beq_eq_false_iff_ne]; omega
    clear hK hcm' hA0 hA2 hA6 b0 b2 b6 hs0 hs2 hs6 hne
    replace hfin := hide hfin
    replace hx := hide hx
    replace hp := hide hp
    replace hx1 := hide hx1
    replace hp1 := hide hp1
    replace hb0 := hide hb0
    replace hA4 := hide hA4
    go_enter Try.func62, Try.ntmps62
    go_wp2_with fail
    refine hA4.out.mono ?_
    rintro e w1 ⟨rfl, rfl⟩
    go_wp2_with fail
    exact bodyPost_ret (v := .tuple #[.agg #[.int .i64 0, .int .i64 0, .bool false], .slice none 0 0, .int .i64 12]) (by simp [results, Try.results62, go_sem]) rfl hfin.out
  subst hne
  obtain ⟨b, hb6⟩ : ∃ b, ((s6 : Int) == 0) = b := ⟨_, rfl⟩
  obtain ⟨w2, hw2⟩ : ∃ w2, (w.alloc (.cells #[.int .i64 0, .int .i64 0, .bool false] 96)).alloc (.cells #[.int .i64 (s0 : Int), .int .i64 (s2 : Int), .bool b] 96) = w2 := ⟨_, rfl⟩
  have hg0 : w2.heap[w.heap.size]? = some (.cells #[.int .i64 0, .int .i64 0, .bool false] 96 (0, 0)) := hw2 ▸ blk_old _ (by simp) (blk_new _ _ _)
  have hg1 : w2.heap[w.heap.size + 1]? = some (.cells #[.int .i64 (s0 : Int), .int .i64 (s2 : Int), .bool b] 96 (0, 0)) := hw2 ▸ (by simpa using blk_new (w.alloc (.cells #[.int .i64 0, .int .i64 0, .bool false] 96)) 96 #[.int .i64 (s0 : Int), .int .i64 (s2 : Int), .bool b])
  have hb2 : Below w.heap.size w w2 := hw2 ▸ hb0.alloc (by simp) _
  have hz2 : w.heap.size + 2 ≤ w2.heap.size := by rw [← hw2]; simp
  have hx2 := hx.on hb2
  have hp2 := hp.on hb2
  have hxn' : xs.length = N := hxn
  obtain ⟨r, hr⟩ : ∃ r, decide (Sum.ones (Sum.tot false (ps ++ xs)) = 65535) = r := ⟨_, rfl⟩
  have hr' : decide (Sum.ones (Sum.tot false (Sum.flat [⟨P, d, ps⟩, ⟨A, c, xs⟩])) = 65535) = r := by rw [← hr]; simp [Sum.flat]
  have hsum := Sum.right_any _ 2 2 _ _ (Icmp.isP_two w2.heap.size rfl (t := 22) (c := c) (d := d) hx2 hp2 (by unfold maxLen; omega) hm) (by unfold maxLen; omega) r hr'
  obtain ⟨f, hf⟩ : ∃ f, (if b = true then !bare else !r) = f := ⟨_, rfl⟩
  have hbs : b = decide (beN xs 6 2 = 0) := by rw [← hb6, hs6]; exact beq_nat s6 0
  have hKf : K = if f = true then 13 else 0 := by
    rw [← hK, ← hf]
    unfold parseK
    rw [if_neg (by omega), if_neg (by omega)]
    by_cases h6 : beN xs 6 2 = 0
    · rw [if_pos h6, hbs, decide_eq_true h6]
      cases bare <;> rfl
    · rw [if_neg h6, hbs, decide_eq_false h6, ← hr]
      by_cases h7 : Sum.ones (Sum.tot false (ps ++ xs)) = 65535
      · rw [if_pos h7, decide_eq_true h7]; rfl
      · rw [if_neg h7, decide_eq_false h7]; rfl
  obtain ⟨A8, hA8⟩ : ∃ A8, (if c = 8 then A else A.map (·.add 8)) = A8 := ⟨_, rfl⟩
  have hx8 : IsB w2 w2.heap.size A8 (N - 8) (xs.drop 8) := by
    have h8' := hx2.cut (k := 8) (m := N) (cap := c) (by omega) (Nat.le_refl _) hnc
    rw [List.take_of_length_le (by rw [hx2.1]; omega)] at h8'
    rw [← hA8]
    exact h8'
  obtain ⟨bb, ob, rfl, _, _⟩ := hx2.2 (by omega)
  have hadd : (⟨bb, ob, none⟩ : Addr).add 8 = ⟨bb, ob + 8, none⟩ := rfl
  simp only [Option.map_some, hadd] at hA8
  have hcg := blk_cell hg1
  clear hr hr' hK hadd hcm'
  replace hx := hide hx
  replace hp := hide hp
  replace hx1 := hide hx1
  replace hp1 := hide hp1
  replace hb0 := hide hb0
  replace hA4 := hide hA4
  replace hA0 := hide hA0
  replace hA2 := hide hA2
  replace hA6 := hide hA6
  replace hs0 := hide hs0
  replace hs2 := hide hs2
  replace hs6 := hide hs6
  replace hN := hide hN
  replace hg0 := hide hg0
  replace hg1 := hide hg1
  replace hb2 := hide hb2
  replace hx2 := hide hx2
  replace hp2 := hide hp2
  replace hsum := hide hsum
  replace hf := hide hf
  replace hbs := hide hbs
  replace hKf := hide hKf
  replace hx8 := hide hx8
  go_enter Try.func62, Try.ntmps62
  go_wp2_with fail
  refine hA4.out.mono ?_
  rintro e w1 ⟨rfl, rfl⟩
  go_wp2_with fail
  refine hA0.out.mono ?_
  rintro e w1 ⟨rfl, rfl⟩
  go_wp2_with fail
  refine hA2.out.mono ?_
  rintro e w1 ⟨rfl, rfl⟩
  go_wp2_with fail
  refine hA6.out.mono ?_
  rintro e w1 ⟨rfl, rfl⟩
  go_upto_region 7 with fail
  clear hw2
  go_cut [52] (fun sv wx => ∃ w3, sv = .bool f ∧ Below w2.heap.size w2 w3 ∧ w3 = wx)
  case first =>
    rcases b with _ | _
    · obtain rfl : (!r) = f := hf.out
      go_wp2_with fail
      refine hsum.out.mono ?_
      rintro e w3 ⟨rfl, rfl⟩
      have hbl : Below w2.heap.size w2 (w2.alloc (.cells #[.slice P m d, .slice (some ⟨bb, ob, none⟩) N c] 22)) := (Below.refl _ _).alloc (Nat.le_refl _) _
      replace hbl := hide hbl
      go_wp2_with fail
      go_meet
      exact ⟨_, rfl, hbl.out, rfl⟩
    · obtain rfl : (!bare) = f := hf.out
      rcases bare with _ | _
      · go_wp2_with fail
        go_meet
        exact ⟨w2, rfl, Below.refl _ _, rfl⟩
      · go_wp2_with fail
        go_meet
        exact ⟨w2, rfl, Below.refl _ _, rfl⟩
  case rest =>
  obtain ⟨w3, rfl, hb3, rfl⟩ := hcut
  have hg03 := blk_below hb3 (by omega) hg0.out
  have hg13 := blk_below hb3 (by omega) hg1.out
  have hB3 := hb2.out.trans (hb3.mono (by omega))
  have z3 := hb3.size
  clear hcg
  rcases f with _ | _
  · have hK0 : K = 0 := hKf.out
    subst hK0
    have hx83 := hx8.out.on hb3
    have hcl := fun (l : Later w3) (o : Nat) => blk_cell (blk_below l.hb (by omega) hg13) o
    replace hg03 := hide hg03
    replace hg13 := hide hg13
    replace hB3 := hide hB3
    replace hx83 := hide hx83
    replace hb3 := hide hb3
    go_upto_region 9 with fail
    refine wp_region_L (by as_aux_lemma => kernel_rfl) ?_
    refine wpE_seg 0 4 (fuel := 4) (by as_aux_lemma => kernel_rfl) (fun d _ _ _ _ h => by cases d <;> exact h) (by as_aux_lemma => kernel_rfl) (by as_aux_lemma => kernel_rfl) ?_
    simp only [List.drop_zero, List.take_succ_cons, List.take_zero]
    iterate 4 (refine wpQE_step (fun K hK => ?_); go_simp; refine hK _ ?_; clear hK K)
    refine wpQE_nil ?_
    clear hcl
    refine wpE_step 4 (fuel := 3) rfl (by as_aux_lemma => kernel_rfl) (fun l K hK => ?_)
    go_simp
    go_at_call 55
    refine (clone_any _ _ _ (xs.drop 8) _ (hx83.out.later l) (by omega)).mono ?_
    rintro e w4 ⟨v, rfl, hown, hb4⟩
    refine hK _ _ hb4 ?_
    clear hK K
    obtain ⟨A', c', rfl, hc', hm', hi'⟩ := hown.form
    refine wpE_end (by as_aux_lemma => kernel_rfl) (fun l2 => ?_)
    have zl := l.hb.size
    have z4 := hb4.size
    have zl2 := l2.hb.size
    have hg04 := blk_below l2.hb (by omega) (blk_below hb4 (by omega) (blk_below l.hb (by omega) hg03.out))
    have hB4 := ((hB3.out.trans (l.hb.mono (by omega))).trans (hb4.mono (by omega))).trans (l2.hb.mono (by omega))
    have hi4 := hi'.on l2.hb
    have hown4 := hown.below l2.hb
    have hcg := blk_cell hg04
    have hfg := blk_free hg04
    obtain ⟨w5, e5, hg5, g5⟩ := set3 hg04 (.int .i64 (s0 : Int)) (.int .i64 (s2 : Int)) (.bool b)
    have hB5 := hB4.trans (below_grown g5 (by omega) (Nat.le_refl _))
    have hown5 := hown4.away g5 (by omega)
    obtain ⟨_, r1, r2, r3⟩ := hown5.reads
    have hcr := blk_cell hg5
    rw [show (xs.drop 8).length = N - 8 by rw [List.length_drop, hxn]] at r1 r3
    clear hown hown4 hown5 hi' hi4 hb4 g5
    replace hg04 := hide hg04
    replace hB4 := hide hB4
    replace hg5 := hide hg5
    replace hB5 := hide hB5
    replace r3 := hide r3
    refine wpT_step 5 rfl (by as_aux_lemma => kernel_rfl) (fun K hK => ?_)
    go_simp
    refine hK _ _ ?_
    clear hK K hcg hfg e5
    refine wpT_step 6 rfl (by as_aux_lemma => kernel_rfl) (fun K hK => ?_)
    go_simp
    refine hK _ _ ?_
    clear hK K
    refine wpT_step 7 rfl (by as_aux_lemma => kernel_rfl) (fun K hK => ?_)
    go_simp
    refine hK _ _ ?_
    clear hK K
    refine wpT_done (by as_aux_lemma => kernel_rfl) ?_ 0
    go_wp2_with fail
    refine bodyPost_ret (v := .tuple #[.agg #[.int .i64 (s0 : Int), .int .i64 (s2 : Int), .bool b], .slice A' (N - 8) c', .int .i64 0]) (by simp [results, Try.results62, go_sem, hcr]) rfl ⟨A', _, c', ?_, ?_, r1, r2, hB5.out⟩
    · unfold parseS parseB
      rw [if_pos rfl, if_pos rfl, hs0.out, hs2.out, hbs.out]
      simp
    · unfold parseR
      rw [if_pos rfl]
      exact r3.out
  · have hK13 : K = 13 := hKf.out
    subst hK13
    have hcg := blk_cell hg03
    have hfg := blk_free hg03
    obtain ⟨w5, e5, hg5, g5⟩ := set3 hg03 (.int .i64 0) (.int .i64 0) (.bool false)
    have hB5 := hB3.trans (below_grown g5 (by omega) (Nat.le_refl _))
    have hfin := end_no (K := 13) (xs := xs) (by omega) hB5
    have hcr := blk_cell hg5
    clear g5
    replace hg03 := hide hg03
    replace hg13 := hide hg13
    replace hB3 := hide hB3
    replace hfin := hide hfin
    replace hg5 := hide hg5
    replace hB5 := hide hB5
    replace hb3 := hide hb3
    go_wp2_with fail
    exact bodyPost_ret (v := .tuple #[.agg #[.int .i64 0, .int .i64 0, .bool false], .slice none 0 0, .int .i64 13]) (by simp [results, Try.results62, go_sem, hcr]) rfl hfin.out
end Udp
end Go.Proofs.Ytdmgbngdpjcliaa
/- Which headers may be: the code's and the law's answers, where they may. -/
namespace Go.Proofs.Ytdmgbngdpjcliaa
open Go.RowKit Go.ChangeShapes Go.WideShapes Go.ChangeAt Go.Deep
namespace Four
set_option maxRecDepth 20000 in
set_option maxHeartbeats 2000000 in
theorem right_yes (tos id : Int) (df mf : Bool) (frag ttl proto slo dlo : Int) (A : Option Addr) (n c : Nat) (w : World) (g1 : 0 ≤ tos) (h1 : tos ≤ 255) (g2 : 0 ≤ id) (h2 : id ≤ 65535) (g3 : 0 ≤ frag) (h3 : frag ≤ 8191) (g4 : 0 ≤ ttl) (h4 : ttl ≤ 255) (g5 : 0 ≤ proto) (h5 : proto ≤ 255) (h6 : slo < 4294967296) (h7 : dlo < 4294967296) (h8 : n ≤ 40) (h9 : n % 4 = 0) :
    Calls Try.prog 80 #[hdV tos id df mf frag ttl proto false 0 slo false 0 dlo A n c] w fun e w' => e = .returned (.bool true) ∧ Below w.heap.size w w' := by
  have a1 : okA false 0 slo = true := by simp [okA]; omega
  have a2 : okA false 0 dlo = true := by simp [okA]; omega
  have h10 : ((n : Int) % 4 == 0) = true := by simp; omega
  replace a1 := hide a1
  replace a2 := hide a2
  have i0 : ∀ w : World, (Instr.index 126 (.agg #[.int .i64 tos, .int .i64 ttl, .int .i64 proto]) (.int .i64 0)).run Try.prog w = .ok (.int .i64 tos) w := fun _ => by kernel_rfl
  have i1 : ∀ w : World, (Instr.index 126 (.agg #[.int .i64 tos, .int .i64 ttl, .int .i64 proto]) (.int .i64 1)).run Try.prog w = .ok (.int .i64 ttl) w := fun _ => by kernel_rfl
  have i2 : ∀ w : World, (Instr.index 126 (.agg #[.int .i64 tos, .int .i64 ttl, .int .i64 proto]) (.int .i64 2)).run Try.prog w = .ok (.int .i64 proto) w := fun _ => by kernel_rfl
  unfold hdV
  go_enter Try.func80, Try.ntmps80
  go_wp2_with fail
  refine wp_loop_rounds 4 ?_
  iterate 4 (rw [rounds_succ]; go_wp2_with fail)
  refine (addr_right false 0 slo true _ a1.out).mono ?_
  rintro e w1 ⟨rfl, hb1⟩
  have hz1 := hb1.size
  simp only [World.size_alloc] at hz1
  have hg1 := blk_below hb1 (by simp) (blk_new _ _ _)
  have hcg := blk_cell hg1
  replace hg1 := hide hg1
  replace hb1 := hide hb1
  go_wp2_with fail
  refine (addr_right false 0 dlo true _ a2.out).mono ?_
  rintro e w2 ⟨rfl, hb2⟩
  have hg2 := blk_below hb2 (by omega) hg1.out
  have hcg2 := blk_cell hg2
  clear hcg
  replace hg2 := hide hg2
  go_wp2_with fail
  go_ret
  exact ⟨by simp, ((Below.refl _ _).alloc (Nat.le_refl _) _).trans ((hb1.out.mono (by simp)).trans (hb2.mono (by omega)))⟩
end Four
end Go.Proofs.Ytdmgbngdpjcliaa
/- Which headers may be: the code's and the law's answers, for every header. No condition. -/
namespace Go.Proofs.Ytdmgbngdpjcliaa
open Go.RowKit Go.ChangeShapes Go.WideShapes Go.ChangeAt Go.Deep
namespace Four
/-- May a header be? -/
def rightB (tos id frag ttl proto : Int) (sv : Bool) (shi slo : Int) (dv : Bool) (dhi dlo : Int) (n : Nat) : Bool :=
  decide (0 ≤ tos ∧ tos ≤ 255 ∧ 0 ≤ ttl ∧ ttl ≤ 255 ∧ 0 ≤ proto ∧ proto ≤ 255 ∧ 0 ≤ id ∧ id ≤ 65535 ∧ 0 ≤ frag ∧ frag ≤ 8191 ∧ sv = false ∧ dv = false ∧ okA sv shi slo = true ∧ okA dv dhi dlo = true ∧ n ≤ 40 ∧ n % 4 = 0)
theorem rightB_no {tos id frag ttl proto : Int} {sv : Bool} {shi slo : Int} {dv : Bool} {dhi dlo : Int} {n : Nat}
    (h : ¬ (0 ≤ tos ∧ tos ≤ 255 ∧ 0 ≤ ttl ∧ ttl ≤ 255 ∧ 0 ≤ proto ∧ proto ≤ 255 ∧ 0 ≤ id ∧ id ≤ 65535 ∧ 0 ≤ frag ∧ frag ≤ 8191 ∧ sv = false ∧ dv = false ∧ okA sv shi slo = true ∧ okA dv dhi dlo = true ∧ n ≤ 40 ∧ n % 4 = 0)) :
    Ending.returned (.bool false) = .returned (.bool (rightB tos id frag ttl proto sv shi slo dv dhi dlo n)) := by
  unfold rightB
  rw [decide_eq_false h]
theorem rightB_yes {tos id frag ttl proto : Int} {sv : Bool} {shi slo : Int} {dv : Bool} {dhi dlo : Int} {n : Nat}
    (h : 0 ≤ tos ∧ tos ≤ 255 ∧ 0 ≤ ttl ∧ ttl ≤ 255 ∧ 0 ≤ proto ∧ proto ≤ 255 ∧ 0 ≤ id ∧ id ≤ 65535 ∧ 0 ≤ frag ∧ frag ≤ 8191 ∧ sv = false ∧ dv = false ∧ okA sv shi slo = true ∧ okA dv dhi dlo = true) (h1 : n ≤ 40) :
    Ending.returned (.bool ((n : Int) % 4 == 0)) = .returned (.bool (rightB tos id frag ttl proto sv shi slo dv dhi dlo n)) := by
  unfold rightB
  congr 2
  rw [Bool.eq_iff_iff]
  simp only [beq_iff_eq, decide_eq_true_eq]
  obtain ⟨a1, a2, a3, a4, a5, a6, a7, a8, a9, a10, a11, a12, a13, a14⟩ := h
  exact ⟨fun h => ⟨a1, a2, a3, a4, a5, a6, a7, a8, a9, a10, a11, a12, a13, a14, h1, by omega⟩, fun h => by omega⟩
set_option maxRecDepth 20000 in
set_option maxHeartbeats 8000000 in
theorem right_any (tos id : Int) (df mf : Bool) (frag ttl proto : Int) (sv : Bool) (shi slo : Int) (dv : Bool) (dhi dlo : Int) (A : Option Addr) (n c : Nat) (w : World) (hn : n ≤ maxLen) :
    Calls Try.prog 80 #[hdV tos id df mf frag ttl proto sv shi slo dv dhi dlo A n c] w fun e w' => e = .returned (.bool (rightB tos id frag ttl proto sv shi slo dv dhi dlo n)) ∧ Below w.heap.size w w' := by
  unfold maxLen at hn
  have i0 : ∀ w : World, (Instr.index 126 (.agg #[.int .i64 tos, .int .i64 ttl, .int .i64 proto]) (.int .i64 0)).run Try.prog w = .ok (.int .i64 tos) w := fun _ => by kernel_rfl
  have i1 : ∀ w : World, (Instr.index 126 (.agg #[.int .i64 tos, .int .i64 ttl, .int .i64 proto]) (.int .i64 1)).run Try.prog w = .ok (.int .i64 ttl) w := fun _ => by kernel_rfl
  have i2 : ∀ w : World, (Instr.index 126 (.agg #[.int .i64 tos, .int .i64 ttl, .int .i64 proto]) (.int .i64 2)).run Try.prog w = .ok (.int .i64 proto) w := fun _ => by kernel_rfl
  unfold hdV
  go_enter Try.func80, Try.ntmps80
  go_wp2_with fail
  refine wp_loop_rounds 4 ?_
  iterate 4 (all_goals (try (rw [rounds_succ]; go_wp2_with fail)))
  all_goals (try (go_ret; refine ⟨rightB_no ?_, (Below.refl _ _).alloc (Nat.le_refl _) _⟩; first | (intro hh; omega) | (intro hh; simp_all)))
  have hs : sv = false := by simpa using ‹¬ sv = true›
  have hd : dv = false := by simpa using ‹¬ dv = true›
  subst hs hd
  rcases ha1 : okA false shi slo with _ | _
  · refine (addr_right false shi slo false _ ha1).mono ?_
    rintro e w1 ⟨rfl, hb1⟩
    replace ha1 := hide ha1
    go_wp2_with fail
    go_ret
    refine ⟨rightB_no ?_, ((Below.refl _ _).alloc (Nat.le_refl _) _).trans (hb1.mono (by simp))⟩
    intro hh
    have := ha1.out
    simp_all
  refine (addr_right false shi slo true _ ha1).mono ?_
  rintro e w1 ⟨rfl, hb1⟩
  have hz1 := hb1.size
  simp only [World.size_alloc] at hz1
  have hg1 := blk_below hb1 (by simp) (blk_new _ _ _)
  have hcg := blk_cell hg1
  replace hg1 := hide hg1
  replace hb1 := hide hb1
  replace ha1 := hide ha1
  go_wp2_with fail
  rcases ha2 : okA false dhi dlo with _ | _
  · refine (addr_right false dhi dlo false _ ha2).mono ?_
    rintro e w2 ⟨rfl, hb2⟩
    replace ha2 := hide ha2
    go_wp2_with fail
    go_ret
    refine ⟨rightB_no ?_, ((Below.refl _ _).alloc (Nat.le_refl _) _).trans ((hb1.out.mono (by simp)).trans (hb2.mono (by omega)))⟩
    intro hh
    have := ha2.out
    simp_all
  refine (addr_right false dhi dlo true _ ha2).mono ?_
  rintro e w2 ⟨rfl, hb2⟩
  have hg2 := blk_below hb2 (by omega) hg1.out
  have hcg2 := blk_cell hg2
  clear hcg
  replace hg2 := hide hg2
  replace ha2 := hide ha2
  have hbb := ((Below.refl w.heap.size w).alloc (Nat.le_refl _) (hdC tos id df mf frag ttl proto false shi slo false dhi dlo A n c)).trans ((hb1.out.mono (by simp)).trans (hb2.mono (by omega)))
  replace hbb := hide hbb
  by_cases h40 : n ≤ 40
  · have h40' : (n : Int) ≤ 40 := by omega
    go_wp2_with fail
    go_ret
    refine ⟨?_, hbb.out⟩
    exact rightB_yes ⟨by omega, by omega, by omega, by omega, by omega, by omega, by omega, by omega, by omega, by omega, rfl, rfl, ha1.out, ha2.out⟩ h40
  · have h40' : ¬ (n : Int) ≤ 40 := by omega
    go_wp2_with fail
    go_ret
    refine ⟨rightB_no ?_, hbb.out⟩
    intro hh
    omega
end Four
end Go.Proofs.Ytdmgbngdpjcliaa
/- icmp.Right and icmp.Bytes by contract. Conditions: slices of bytes that read as lists, below 2^30 bytes. -/
namespace Go.Proofs.Ytdmgbngdpjcliaa
open Go.RowKit Go.ChangeShapes Go.WideShapes Go.ChangeAt Go.Deep
namespace Icmp
theorem right_yes (t k : Int) (wd : Value) (A : Option Addr) (n c : Nat) (w : World) (ht : 0 ≤ t ∧ t ≤ 255) (hk : 0 ≤ k ∧ k ≤ 255) (wi : Int) (hw : wd = .int .u32 wi) :
    Calls Try.prog 93 #[.agg #[.int .i64 t, .int .i64 k, wd, .slice A n c]] w fun e w' => e = .returned (.bool true) ∧ Below w.heap.size w w' := by
  subst hw
  obtain ⟨ht0, ht1⟩ := ht
  obtain ⟨hk0, hk1⟩ := hk
  go_enter Try.func93, Try.ntmps93
  go_wp2
  go_ret
  exact ⟨by simp [*], (Below.refl _ _).alloc (Nat.le_refl _) _⟩
theorem right_no (t k : Int) (wi : Int) (A : Option Addr) (n c : Nat) (w : World) (h : ¬ ((0 ≤ t ∧ t ≤ 255) ∧ 0 ≤ k ∧ k ≤ 255)) :
    Calls Try.prog 93 #[.agg #[.int .i64 t, .int .i64 k, .int .u32 wi, .slice A n c]] w fun e w' => e = .returned (.bool false) ∧ Below w.heap.size w w' := by
  by_cases h1 : 0 ≤ t
  · by_cases h2 : t ≤ 255
    · by_cases h3 : 0 ≤ k
      · have h4 : ¬ k ≤ 255 := by omega
        clear h
        go_enter Try.func93, Try.ntmps93
        go_wp2
        go_ret
        exact ⟨by simp <;> omega, (Below.refl _ _).alloc (Nat.le_refl _) _⟩
      · clear h
        go_enter Try.func93, Try.ntmps93
        go_wp2
        go_ret
        exact ⟨by simp <;> omega, (Below.refl _ _).alloc (Nat.le_refl _) _⟩
    · clear h
      go_enter Try.func93, Try.ntmps93
      go_wp2
      go_ret
      exact ⟨by simp <;> omega, (Below.refl _ _).alloc (Nat.le_refl _) _⟩
  · clear h
    go_enter Try.func93, Try.ntmps93
    go_wp2
    go_ret
    exact ⟨by simp <;> omega, (Below.refl _ _).alloc (Nat.le_refl _) _⟩
/-- A message's bytes, the check's two still 0. -/
def head0 (t k wd : Nat) (xs : List UInt8) : List UInt8 := [UInt8.ofNat t, UInt8.ofNat k, 0, 0] ++ (beB wd 4 ++ xs)
def msgB (ps : List UInt8) (t k wd : Nat) (xs : List UInt8) : List UInt8 := setB (head0 t k wd xs) 2 (beB (65535 - Sum.ones (Sum.tot false (ps ++ head0 t k wd xs))) 2)
theorem bytes_no (t k : Int) (wi : Int) (A : Option Addr) (n c : Nat) (P : Option Addr) (m d : Nat) (w : World) (h : ¬ ((0 ≤ t ∧ t ≤ 255) ∧ 0 ≤ k ∧ k ≤ 255)) :
    Calls Try.prog 71 #[.agg #[.int .i64 t, .int .i64 k, .int .u32 wi, .slice A n c], .slice P m d] w fun e w' => e = .returned (.tuple #[.slice none 0 0, .int .i64 1]) ∧ Below w.heap.size w w' := by
  go_enter Try.func71, Try.ntmps71
  go_wp2_with fail
  refine (right_no t k wi A n c _ h).mono ?_
  rintro e w1 ⟨rfl, hb⟩
  go_wp2_with fail
  go_ret2
  exact ⟨rfl, ((Below.refl _ _).alloc (Nat.le_refl _) _).trans (hb.mono (by simp))⟩
theorem isP_two' {w : World} (b : Nat) (hb : w.heap.size = b) {t : TypeId} {A P : Option Addr} {n c m d : Nat} {xs ps : List UInt8} (hx : IsB w w.heap.size A n xs) (hp : IsB w w.heap.size P m ps) (hn : n ≤ maxLen) (hm : m ≤ maxLen) :
    Sum.IsP (w.alloc (.cells #[.slice P m d, .slice A n c] t)) (w.alloc (.cells #[.slice P m d, .slice A n c] t)).heap.size (some ⟨b, 0, none⟩) 2 [⟨P, d, ps⟩, ⟨A, c, xs⟩] := isP_two b hb hx hp hn hm
set_option maxHeartbeats 2000000 in
theorem bytes_yes (t k wd : Nat) (A : Option Addr) (n c : Nat) (P : Option Addr) (m d : Nat) (xs ps : List UInt8) (w : World) (ht : t ≤ 255) (hk : k ≤ 255) (hwd : wd < 4294967296) (hx : IsB w w.heap.size A n xs) (hp : IsB w w.heap.size P m ps) (hn : n ≤ 1073741824) (hm : m ≤ maxLen) :
    Calls Try.prog 71 #[.agg #[.int .i64 (t : Int), .int .i64 (k : Int), .int .u32 (wd : Int), .slice A n c], .slice P m d] w fun e w' => ∃ v, e = .returned (.tuple #[v, .int .i64 0]) ∧ OwnB w' w.heap.size v (msgB ps t k wd xs) ∧ Below w.heap.size w w' := by
  have hxl := hx.1
  replace hx := hide hx
  replace hp := hide hp
  replace hxl := hide hxl
  go_enter Try.func71, Try.ntmps71
  go_wp2_with fail
  refine (right_yes _ _ (.int .u32 (wd : Int)) A n c _ (by omega) (by omega) (wd : Int) rfl).mono ?_
  rintro e w1 ⟨rfl, hb1⟩
  have hblk1 := blk_below hb1 (by simp) (blk_new w 100 #[.int .i64 (t : Int), .int .i64 (k : Int), .int .u32 (wd : Int), .slice A n c])
  have hbw1 : Below w.heap.size w w1 := ((Below.refl _ _).alloc (Nat.le_refl _) _).trans (hb1.mono (by simp))
  have hz1 := hb1.size
  simp only [World.size_alloc] at hz1
  have hlt1 : w.heap.size < w1.heap.size := by omega
  have hcell1 := blk_cell hblk1
  replace hb1 := hide hb1
  replace hbw1 := hide hbw1
  go_wp2_with fail
  have hown0 : OwnB (w1.alloc (.cells #[.int .u8 (t : Int), .int .u8 (k : Int), .int .u8 0, .int .u8 0] 5)) w1.heap.size (.slice (some ⟨w1.heap.size, 0, none⟩) 4 4) [UInt8.ofNat t, UInt8.ofNat k, 0, 0] := by
    refine OwnB.litv w1 w1.heap.size [.int .u8 (t : Int), .int .u8 (k : Int), .int .u8 0, .int .u8 0] [UInt8.ofNat t, UInt8.ofNat k, 0, 0] 4 ?_ rfl (Nat.le_refl _) (by omega)
    simp only [List.map_cons, List.map_nil, u8v_nat t ht, u8v_nat k hk]
    rfl
  refine (put_lit _ _ wd 4 rfl rfl w1.heap.size _ _ _ hown0 (by simp) (by omega) (by omega) (by simp)).mono ?_
  rintro e w2 ⟨v2, rfl, hown2, hg2⟩
  have hb2 := hg2.below hown0 (by simp)
  have hz2 := hb2.size
  simp only [World.size_alloc] at hz2
  have hbw2 : Below w1.heap.size w1 w2 := ((Below.refl _ _).alloc (Nat.le_refl _) _).trans hb2
  have hblk2 := blk_below hbw2 (by omega) hblk1
  have hcell2 := blk_cell hblk2
  have hx2 := (hx.out.on hbw1.out).on hbw2
  clear hcell1
  replace hown0 := hide hown0
  replace hown2 := hide hown2
  replace hg2 := hide hg2
  replace hb2 := hide hb2
  replace hbw2 := hide hbw2
  replace hx2 := hide hx2
  replace hblk1 := hide hblk1
  replace hblk2 := hide hblk2
  go_wp2_with (at_builtin; refine wpl_src_bv rfl (.tmp 21) (.tmp 23) rfl w1.heap.size _ _ xs _ _ _ w2.heap.size rfl rfl hown2.out hx2.out ?_ ?_ ?_)
  · omega
  · simp only [List.length_append, beB_length, List.length_cons, List.length_nil]; omega
  intro v3 w3 hown3 hg3
  have hown3' : OwnB w3 w1.heap.size v3 (head0 t k wd xs) := by rw [head0]; simpa using hown3
  clear hown3
  obtain ⟨A3, c3, rfl, hc3, hm3, hi3⟩ := hown3'.form
  obtain ⟨n3, hn3⟩ : ∃ n3, (head0 t k wd xs).length = n3 := ⟨_, rfl⟩
  have hn3' : n3 = n + 8 := by rw [← hn3, head0]; simp [beB_length, hxl.out]; omega
  rw [hn3] at hc3 hi3 hown3' ⊢
  replace hn3 := hide hn3
  replace hn3' := hide hn3'
  have hn3b : n3 ≤ 1073741832 := by have := hn3'.out; omega
  have hn38 : 8 ≤ n3 := by have := hn3'.out; omega
  have hb3 := hg3.below hown2.out (by omega)
  have hz3 := hb3.size
  have hbw3 : Below w.heap.size w w3 := (hbw1.out.trans (hbw2.out.mono (by omega))).trans (hb3.mono (by omega))
  have hp3 := hp.out.on hbw3
  have hps := isP_two' w3.heap.size rfl (t := 22) (c := c3) (d := d) hi3 hp3 (by unfold maxLen; omega) hm
  have hi4 := hi3.alloc (.cells #[.slice P m d, .slice A3 n3 c3] 22)
  have hle := Sum.ones_le (Sum.tot false (ps ++ head0 t k wd xs))
  have hfl : Sum.flat [⟨P, d, ps⟩, ⟨A3, c3, head0 t k wd xs⟩] = ps ++ head0 t k wd xs := by simp [Sum.flat]
  replace hps := hide hps
  replace hi3 := hide hi3
  replace hi4 := hide hi4
  replace hown3' := hide hown3'
  replace hg3 := hide hg3
  replace hb3 := hide hb3
  replace hbw3 := hide hbw3
  replace hp3 := hide hp3
  replace hfl := hide hfl
  clear hcell2
  go_wp2_with fail
  refine (Sum.check_any _ _ _ _ _ hps.out (by unfold maxLen; omega)).mono ?_
  rintro e w' ⟨rfl, rfl⟩
  rw [hfl.out]
  go_wp2_with fail
  refine (set_in A3 n3 c3 (head0 t k wd xs) 2 (65535 - Sum.ones (Sum.tot false (ps ++ head0 t k wd xs))) 2 _ _ _ rfl rfl rfl _ hi4.out (by omega) (by omega) (by omega) (by omega) (by omega)).mono ?_
  rintro e w4 ⟨v4, rfl, hown4, hb4⟩
  replace hown4 := hide hown4
  replace hb4 := hide hb4
  go_wp2_with fail
  go_ret2
  refine ⟨v4, rfl, ?_, ?_⟩
  · exact hown4.out.weaken (by simp; omega)
  · exact (hbw3.out.alloc (by omega) _).trans (hb4.out.mono (by simp; omega))
end Icmp
end Go.Proofs.Ytdmgbngdpjcliaa
/- tcp.Parse, by contract. Conditions: slices of bytes that read as lists, at most 2^40 bytes. -/
namespace Go.Proofs.Ytdmgbngdpjcliaa
open Go.RowKit Go.ChangeShapes Go.WideShapes Go.ChangeAt Go.Deep
theorem set8all {w : World} {g : Nat} {t : TypeId} {a0 a1 a2 a3 a4 a5 a6 a7 : Value} (h : w.heap[g]? = some (.cells #[a0, a1, a2, a3, a4, a5, a6, a7] t (0, 0))) (v0 v1 v2 v3 v4 v5 v6 v7 : Value) : ∃ w', ((((((((w.setCell ⟨g, 0, none⟩ v0).setCell ⟨g, 1, none⟩ v1).setCell ⟨g, 2, none⟩ v2).setCell ⟨g, 3, none⟩ v3).setCell ⟨g, 4, none⟩ v4).setCell ⟨g, 5, none⟩ v5).setCell ⟨g, 6, none⟩ v6).setCell ⟨g, 7, none⟩ v7) = w' ∧ w'.heap[g]? = some (.cells #[v0, v1, v2, v3, v4, v5, v6, v7] t (0, 0)) ∧ w.grownBy w' (some g) := by
  refine ⟨_, rfl, ?_, ?_⟩
  · simpa using (blk_set (blk_set (blk_set (blk_set (blk_set (blk_set (blk_set (blk_set h 0 v0) 1 v1) 2 v2) 3 v3) 4 v4) 5 v5) 6 v6) 7 v7)
  · iterate 8 refine grown_set ?_ rfl _
    exact grown_refl _ _
/-- .. as a step of a drawn region. -/
theorem Octet.at_on (pi ki : Int) (p k : Nat) (hpi : pi = (p : Int)) (hki : ki = (k : Int)) (A : Option Addr) (n c : Nat) (xs : List UInt8) (w : World) (hx : IsB w w.heap.size A n xs) (hn : n ≤ maxLen) (hp : p ≤ 4611686018427387904) (hk : k ≤ 8) :
    Calls Try.prog 39 #[.slice A n c, .int .i64 pi, .int .i64 ki] w fun e w' => e = .returned (.int .u64 (beN xs p k : Nat)) ∧ Below w.heap.size w w' :=
  (Octet.at_lit pi ki p k hpi hki A n c xs w hx hn hp hk).mono fun _ _ h => ⟨h.1, h.2 ▸ Below.refl _ _⟩
namespace Tcp
/-- Why bytes are no segment: 0 if they are one. -/
def parseK (ps xs : List UInt8) : Nat :=
  if xs.length < 20 then 2 else if (xs.getD 12 0).toNat / 16 * 4 < 20 ∨ xs.length < (xs.getD 12 0).toNat / 16 * 4 ∨ (xs.getD 12 0).toNat % 16 ≠ 0 then 11 else if Sum.ones (Sum.tot false (ps ++ xs)) = 65535 then 0 else 13
def parseS (K : Nat) (xs : List UInt8) (p : Nat) : Nat := if K = 0 then beN xs p 2 else 0
def parseF (K : Nat) (xs : List UInt8) : Nat := if K = 0 then (xs.getD 13 0).toNat else 0
abbrev hdV (sp dp seq ack fl wn ug : Int) (A : Option Addr) (n c : Nat) : Value := .agg #[.int .i64 sp, .int .i64 dp, .int .u32 seq, .int .u32 ack, .int .i64 fl, .int .i64 wn, .int .i64 ug, .slice A n c]
abbrev hdC (sp dp seq ack fl wn ug : Int) (A : Option Addr) (n c : Nat) : Obj := .cells #[.int .i64 sp, .int .i64 dp, .int .u32 seq, .int .u32 ack, .int .i64 fl, .int .i64 wn, .int .i64 ug, .slice A n c] 92
/-- How it ends. -/
def PEnd (K : Nat) (xs : List UInt8) (w w' : World) (e : Ending) : Prop :=
  ∃ seq ack wn ug A1 n1 c1 A2 n2 c2, e = .returned (.tuple #[hdV (parseS K xs 0 : Nat) (parseS K xs 2 : Nat) seq ack (parseF K xs : Nat) wn ug A1 n1 c1, .slice A2 n2 c2, .int .i64 (K : Int)]) ∧ Below w.heap.size w w'
theorem end_no {K : Nat} {xs : List UInt8} {w w' : World} (h : K ≠ 0) (hb : Below w.heap.size w w') : PEnd K xs w w' (.returned (.tuple #[hdV 0 0 0 0 0 0 0 none 0 0, .slice none 0 0, .int .i64 (K : Int)])) := by
  refine ⟨0, 0, 0, 0, none, 0, 0, none, 0, 0, ?_, hb⟩
  unfold parseS parseF
  rw [if_neg h, if_neg h, if_neg h]
  rfl
set_option maxRecDepth 20000 in
set_option maxHeartbeats 8000000 in
theorem parse_any (A P : Option Addr) (n c m d : Nat) (xs ps : List UInt8) (w : World) (hx : IsB w w.heap.size A n xs) (hp : IsB w w.heap.size P m ps) (hnc : n ≤ c) (hcm : c ≤ maxLen) (hnm : n ≤ 1099511627776) (hm : m ≤ maxLen) (K : Nat) (hK : parseK ps xs = K) :
    Calls Try.prog 61 #[.slice A n c, .slice P m d] w fun e w' => PEnd K xs w w' e := by
  have hxn := hx.1
  have hx1 := hx.alloc (hdC 0 0 0 0 0 0 0 none 0 0)
  have hp1 := hp.alloc (hdC 0 0 0 0 0 0 0 none 0 0)
  have hb0 : Below w.heap.size w (w.alloc (hdC 0 0 0 0 0 0 0 none 0 0)) := (Below.refl _ _).alloc (Nat.le_refl _) _
  unfold hdC at hx1 hp1 hb0
  by_cases h20 : n < 20
  · have hK2 : K = 2 := by rw [← hK]; unfold parseK; rw [if_pos (by omega)]
    subst hK2
    have hfin := end_no (K := 2) (xs := xs) (by omega) hb0
    have t1 : (n : Int) < 20 := by omega
    clear hK hcm
    replace hfin := hide hfin
    replace hx := hide hx
    replace hp := hide hp
    replace hx1 := hide hx1
    replace hp1 := hide hp1
    replace hb0 := hide hb0
    go_enter Try.func61, Try.ntmps61
    go_wp2_with fail
    exact bodyPost_ret (v := .tuple #[hdV 0 0 0 0 0 0 0 none 0 0, .slice none 0 0, .int .i64 2]) (by simp [results, Try.results61, go_sem]) rfl hfin.out
  have t1 : ¬ (n : Int) < 20 := by omega
  obtain ⟨b, off, v12, rfl, hbl, hv12, hv12l, hc12⟩ := hx1.byte (i := 12) (by omega)
  obtain ⟨v13, hv13, hv13l, hc13⟩ := hx1.byteAt (i := 13) (by omega)
  obtain ⟨q, hq⟩ : ∃ q, v12 / 16 = q := ⟨_, rfl⟩
  obtain ⟨s, hs⟩ : ∃ s, q * 4 = s := ⟨_, rfl⟩
  obtain ⟨lo, hlo⟩ : ∃ lo, v12 % 16 = lo := ⟨_, rfl⟩
  have e0 : bits .and .u8 (v12 : Int) 15 = (lo : Int) := by rw [u8_and15 (v12 : Int) (by omega) (by omega)]; omega
  have eq : (v12 : Int) / 16 = (q : Int) := by omega
  have es : (q : Int) * 4 = (s : Int) := by omega
  have hs60 : s ≤ 60 := by omega
  have i12 : (12 : Int) < (n : Int) := by omega
  have i13 : (13 : Int) < (n : Int) := by omega
  obtain ⟨f, hf⟩ : ∃ f, decide (s < 20 ∨ n < s ∨ lo ≠ 0) = f := ⟨_, rfl⟩
  obtain ⟨r, hr⟩ : ∃ r, decide (Sum.ones (Sum.tot false (ps ++ xs)) = 65535) = r := ⟨_, rfl⟩
  have hKf : K = if f = true then 11 else if r = true then 0 else 13 := by
    rw [← hK, ← hf, ← hr]
    unfold parseK
    rw [if_neg (by omega), hv12, hq, hs, hlo, hxn]
    by_cases h1 : s < 20 ∨ n < s ∨ lo ≠ 0
    · rw [if_pos h1, decide_eq_true h1, if_pos rfl]
    · rw [if_neg h1, decide_eq_false h1]
      by_cases h2 : Sum.ones (Sum.tot false (ps ++ xs)) = 65535
      · rw [if_pos h2, decide_eq_true h2]; rfl
      · rw [if_neg h2, decide_eq_false h2]; rfl
  have hr' : decide (Sum.ones (Sum.tot false (Sum.flat [⟨P, d, ps⟩, ⟨some ⟨b, off, none⟩, c, xs⟩])) = 65535) = r := by rw [← hr]; simp [Sum.flat]
  have hsum := Sum.right_any _ 2 2 _ _ (Icmp.isP_two (w.heap.size + 1) (by simp) (t := 22) (c := c) (d := d) hx1 hp1 (by unfold maxLen; omega) hm) (by unfold maxLen; omega) r hr'
  have hcm' := hcm
  unfold maxLen at hcm
  clear hr hr' hK hcm' hq hs hlo
  replace hx := hide hx
  replace hp := hide hp
  replace hx1 := hide hx1
  replace hp1 := hide hp1
  replace hb0 := hide hb0
  replace hv12 := hide hv12
  replace hv13 := hide hv13
  replace hsum := hide hsum
  replace hf := hide hf
  replace hKf := hide hKf
  go_enter Try.func61, Try.ntmps61
  go_upto_region 4 with fail
  go_cut [19] (fun sv wx => sv = .bool f ∧ w.alloc (.cells #[.int .i64 0, .int .i64 0, .int .u32 0, .int .u32 0, .int .i64 0, .int .i64 0, .int .i64 0, .slice none 0 0] 92) = wx)
  case first =>
    have hff := hf.out
    by_cases h1 : s < 20
    · have t2 : (s : Int) < 20 := by omega
      rw [decide_eq_true (.inl h1)] at hff
      go_wp2_with fail
      go_meet
      exact ⟨by first | rfl | rw [hff], rfl⟩
    · have t2 : ¬ (s : Int) < 20 := by omega
      by_cases h2 : n < s
      · have t3 : (n : Int) < (s : Int) := by omega
        rw [decide_eq_true (.inr (.inl h2))] at hff
        go_wp2_with fail
        go_meet
        exact ⟨by first | rfl | rw [hff], rfl⟩
      · have t3 : ¬ (n : Int) < (s : Int) := by omega
        have hfe : f = ((lo : Int) != 0) := by
          rw [← hff]
          by_cases h3 : lo = 0
          · subst h3
            exact decide_eq_false (by omega)
          · rw [decide_eq_true (.inr (.inr h3))]
            exact (bne_iff_ne.2 (by omega)).symm
        obtain ⟨z, hz⟩ : ∃ z, ((lo : Int) != 0) = z := ⟨_, rfl⟩
        rw [hz] at hfe
        clear hff
        replace hfe := hide hfe
        go_wp2_with fail
        go_meet
        exact ⟨by first | rw [hfe.out] | rfl, rfl⟩
  case rest =>
  obtain ⟨rfl, rfl⟩ := hcut
  rcases f with _ | _
  case true =>
    have hK11 : K = 11 := by rw [hKf.out]; rfl
    subst hK11
    have hfin := end_no (K := 11) (xs := xs) (by omega) hb0.out
    clear hc12 hc13
    replace hfin := hide hfin
    go_wp2_with fail
    exact bodyPost_ret (v := .tuple #[hdV 0 0 0 0 0 0 0 none 0 0, .slice none 0 0, .int .i64 11]) (by simp [results, Try.results61, go_sem]) rfl hfin.out
  case false =>
  have hs2 : 20 ≤ s ∧ s ≤ n := by
    have h1 := of_decide_eq_false hf.out
    omega
  obtain ⟨hs2, hs3⟩ := hs2
  go_wp2_with fail
  refine hsum.out.mono ?_
  rintro e w1 ⟨rfl, rfl⟩
  rcases r with _ | _
  case false =>
    have hK13 : K = 13 := by rw [hKf.out]; rfl
    subst hK13
    have hfin := end_no (K := 13) (xs := xs) (by omega) (hb0.out.alloc (by simp) (.cells #[.slice P m d, .slice (some ⟨b, off, none⟩) n c] 22))
    clear hc12 hc13
    replace hfin := hide hfin
    go_wp2_with fail
    exact bodyPost_ret (v := .tuple #[hdV 0 0 0 0 0 0 0 none 0 0, .slice none 0 0, .int .i64 13]) (by simp [results, Try.results61, go_sem]) rfl hfin.out
  case true =>
  have hK0 : K = 0 := by rw [hKf.out]; rfl
  subst hK0
  have hx2' := hx1.out.alloc (.cells #[.slice P m d, .slice (some ⟨b, off, none⟩) n c] 22)
  obtain ⟨w2, hw2⟩ : ∃ w2, (w.alloc (.cells #[.int .i64 0, .int .i64 0, .int .u32 0, .int .u32 0, .int .i64 0, .int .i64 0, .int .i64 0, .slice none 0 0] 92)).alloc (.cells #[.slice P m d, .slice (some ⟨b, off, none⟩) n c] 22) = w2 := ⟨_, rfl⟩
  have hb2 : Below w.heap.size w w2 := hw2 ▸ hb0.out.alloc (by simp) _
  have hg2 : w2.heap[w.heap.size]? = some (.cells #[.int .i64 0, .int .i64 0, .int .u32 0, .int .u32 0, .int .i64 0, .int .i64 0, .int .i64 0, .slice none 0 0] 92 (0, 0)) := hw2 ▸ blk_old _ (by simp) (blk_new _ _ _)
  have hlt2 : w.heap.size < w2.heap.size := by rw [← hw2]; simp; omega
  rw [hw2] at hx2' ⊢
  have hc13' : w2.cell? ⟨b, off + 13, none⟩ = some (.int .u8 (v13 : Int)) := by
    rw [← hw2]
    exact ((Below.refl _ _).alloc (Nat.le_refl _) _ |>.cell hbl).trans hc13
  have hd13 : ∀ l : Later w2, l.w.cell? ⟨b, off + 13, none⟩ = some (.int .u8 (v13 : Int)) := fun l => l.cell hc13'
  clear hw2 hc12 hc13 hsum hx1 hp1 e0 hc13'
  obtain ⟨A2, hA2⟩ : ∃ A2, (if c = 20 then some (⟨b, off, none⟩ : Addr) else some ⟨b, off + 20, none⟩) = A2 := ⟨_, rfl⟩
  obtain ⟨A3, hA3⟩ : ∃ A3, (if c = s then some (⟨b, off, none⟩ : Addr) else some ⟨b, off + s, none⟩) = A3 := ⟨_, rfl⟩
  have hadd : ∀ k, 0 < k → (⟨b, off, none⟩ : Addr).add k = ⟨b, off + k, none⟩ := fun k hk => by unfold Addr.add; rw [if_neg (by omega)]
  have hxo : IsB w2 w2.heap.size A2 (s - 20) ((xs.take s).drop 20) := by
    have h := hx2'.cut (k := 20) (m := s) (cap := c) hs2 hs3 hnc
    rw [Option.map_some, hadd 20 (by omega), hA2] at h
    exact h
  have hxr : IsB w2 w2.heap.size A3 (n - s) ((xs.take n).drop s) := by
    have h := hx2'.cut (k := s) (m := n) (cap := c) hs3 (Nat.le_refl _) hnc
    rw [Option.map_some, hadd s (by omega), hA3] at h
    exact h
  have b0 := beN_lt xs 0 2
  have b2 := beN_lt xs 2 2
  rw [show 256 ^ 2 = 65536 from rfl] at b0 b2
  have j0 := fun l : Later w2 => Octet.at_on 0 2 0 2 rfl rfl _ n c xs l.w (hx2'.later l) (by unfold maxLen; omega) (by omega) (by omega)
  have j2 := fun l : Later w2 => Octet.at_on 2 2 2 2 rfl rfl _ n c xs l.w (hx2'.later l) (by unfold maxLen; omega) (by omega) (by omega)
  have j4 := fun l : Later w2 => Octet.at_on 4 4 4 4 rfl rfl _ n c xs l.w (hx2'.later l) (by unfold maxLen; omega) (by omega) (by omega)
  have j8 := fun l : Later w2 => Octet.at_on 8 4 8 4 rfl rfl _ n c xs l.w (hx2'.later l) (by unfold maxLen; omega) (by omega) (by omega)
  have j14 := fun l : Later w2 => Octet.at_on 14 2 14 2 rfl rfl _ n c xs l.w (hx2'.later l) (by unfold maxLen; omega) (by omega) (by omega)
  have j18 := fun l : Later w2 => Octet.at_on 18 2 18 2 rfl rfl _ n c xs l.w (hx2'.later l) (by unfold maxLen; omega) (by omega) (by omega)
  obtain ⟨s0, hs0⟩ : ∃ N, beN xs 0 2 = N := ⟨_, rfl⟩
  obtain ⟨s2, hs22⟩ : ∃ N, beN xs 2 2 = N := ⟨_, rfl⟩
  obtain ⟨x4, hx4⟩ : ∃ N, beN xs 4 4 = N := ⟨_, rfl⟩
  obtain ⟨x8, hx8⟩ : ∃ N, beN xs 8 4 = N := ⟨_, rfl⟩
  obtain ⟨x14, hx14⟩ : ∃ N, beN xs 14 2 = N := ⟨_, rfl⟩
  obtain ⟨x18, hx18⟩ : ∃ N, beN xs 18 2 = N := ⟨_, rfl⟩
  simp only [hs0] at j0
  simp only [hs22] at j2
  simp only [hx4] at j4
  simp only [hx8] at j8
  simp only [hx14] at j14
  simp only [hx18] at j18
  rw [hs0] at b0
  rw [hs22] at b2
  have ts1 : (20 : Int) ≤ (s : Int) := by omega
  have ts2 : (s : Int) ≤ (n : Int) := by omega
  have ts3 : (n : Int) ≤ (c : Int) := by omega
  have ts4 : s ≤ c := by omega
  have ts5 : (s : Int) ≤ (c : Int) := by omega
  clear hadd hx4 hx8 hx14 hx18
  replace hx2' := hide hx2'
  replace hb2 := hide hb2
  replace hg2 := hide hg2
  replace hxo := hide hxo
  replace hxr := hide hxr
  replace hs0 := hide hs0
  replace hs22 := hide hs22
  replace j0 := hide j0
  replace j2 := hide j2
  replace j4 := hide j4
  replace j8 := hide j8
  replace j14 := hide j14
  replace j18 := hide j18
  go_upto_region 8 with fail
  go_cut [8] (fun tv wx => ∃ g w5 sq ak wn ug A' n' c', tv = .pointer (some ⟨g, 0, none⟩) ∧ w5.heap[g]? = some (.cells #[.int .i64 (s0 : Int), .int .i64 (s2 : Int), .int .u32 sq, .int .u32 ak, .int .i64 (v13 : Int), .int .i64 wn, .int .i64 ug, .slice A' n' c'] 92 (0, 0)) ∧ w2.heap.size ≤ g ∧ g < w5.heap.size ∧ Below w2.heap.size w2 w5 ∧ w5 = wx)
  case first =>
    refine wp_region_L (by as_aux_lemma => kernel_rfl) ?_
    refine wpE_seg 0 25 (fuel := 4) (by as_aux_lemma => kernel_rfl) (fun d _ _ _ _ h => by cases d <;> exact h) (by as_aux_lemma => kernel_rfl) (by as_aux_lemma => kernel_rfl) ?_
    simp only [List.drop_zero, List.take_succ_cons, List.take_zero]
    iterate 1 (refine wpQE_step (fun K hK => ?_); go_simp; refine hK _ ?_; clear hK K)
    (refine wpQE_step (fun K hK => ?_); go_simp; apply Exists.intro; refine ⟨fun l => ?_, hK _ ?_⟩; (go_at_call 39; refine (j0.out l).mono ?_; rintro e w' ⟨rfl, hb⟩; exact ⟨rfl, hb⟩); clear hK K)
    iterate 2 (refine wpQE_step (fun K hK => ?_); go_simp; refine hK _ ?_; clear hK K)
    (refine wpQE_step (fun K hK => ?_); go_simp; apply Exists.intro; refine ⟨fun l => ?_, hK _ ?_⟩; (go_at_call 39; refine (j2.out l).mono ?_; rintro e w' ⟨rfl, hb⟩; exact ⟨rfl, hb⟩); clear hK K)
    iterate 2 (refine wpQE_step (fun K hK => ?_); go_simp; refine hK _ ?_; clear hK K)
    (refine wpQE_step (fun K hK => ?_); go_simp; apply Exists.intro; refine ⟨fun l => ?_, hK _ ?_⟩; (go_at_call 39; refine (j4.out l).mono ?_; rintro e w' ⟨rfl, hb⟩; exact ⟨rfl, hb⟩); clear hK K)
    iterate 2 (refine wpQE_step (fun K hK => ?_); go_simp; refine hK _ ?_; clear hK K)
    (refine wpQE_step (fun K hK => ?_); go_simp; apply Exists.intro; refine ⟨fun l => ?_, hK _ ?_⟩; (go_at_call 39; refine (j8.out l).mono ?_; rintro e w' ⟨rfl, hb⟩; exact ⟨rfl, hb⟩); clear hK K)
    iterate 6 (refine wpQE_step (fun K hK => ?_); go_simp; refine hK _ ?_; clear hK K)
    (refine wpQE_step (fun K hK => ?_); go_simp; apply Exists.intro; refine ⟨fun l => ?_, hK _ ?_⟩; (go_at_call 39; refine (j14.out l).mono ?_; rintro e w' ⟨rfl, hb⟩; exact ⟨rfl, hb⟩); clear hK K)
    iterate 2 (refine wpQE_step (fun K hK => ?_); go_simp; refine hK _ ?_; clear hK K)
    (refine wpQE_step (fun K hK => ?_); go_simp; apply Exists.intro; refine ⟨fun l => ?_, hK _ ?_⟩; (go_at_call 39; refine (j18.out l).mono ?_; rintro e w' ⟨rfl, hb⟩; exact ⟨rfl, hb⟩); clear hK K)
    iterate 4 (refine wpQE_step (fun K hK => ?_); go_simp; refine hK _ ?_; clear hK K)
    refine wpQE_nil ?_
    have q0 : IntKind.i64.wrap (s0 : Int) = (s0 : Int) := wraps62 _ (by omega) (by omega)
    have q2 : IntKind.i64.wrap (s2 : Int) = (s2 : Int) := wraps62 _ (by omega) (by omega)
    have q13 : IntKind.i64.wrap (v13 : Int) = (v13 : Int) := wraps62 _ (by omega) (by omega)
    rw [q0, q2, q13]
    clear hd13 q0 q2 q13 j0 j2 j4 j8 j14 j18
    have hxol : s - 20 ≤ 1099511627776 := by omega
    refine wpE_two 25 27 (fuel := 3) rfl rfl (by as_aux_lemma => kernel_rfl) (fun w3 hw3 K hK => ?_) (fun w3 hw3 K hK => ?_)
    · go_simp
      go_at_call 55
      refine (clone_any _ _ _ _ _ (hxo.out.on hw3) hxol).mono ?_
      rintro e w4 ⟨v, rfl, hown, hb4⟩
      obtain ⟨A', c', rfl, hc', hm', hi'⟩ := hown.form
      refine hK _ _ hb4 ?_
      clear hK K hown hi'
      refine wpE_seg 26 1 (fuel := 2) (by as_aux_lemma => kernel_rfl) (fun d _ _ _ _ h => by cases d <;> exact h) (by as_aux_lemma => kernel_rfl) (by as_aux_lemma => kernel_rfl) ?_
      simp only [List.drop_succ_cons, List.drop_zero, List.take_succ_cons, List.take_zero]
      iterate 1 (refine wpQE_step (fun K hK => ?_); go_simp; refine hK _ ?_; clear hK K)
      refine wpQE_nil ?_
      refine wpE_step 27 (fuel := 1) rfl (by as_aux_lemma => kernel_rfl) (fun l K hK => ?_)
      go_simp
      have zw3 := hw3.size
      have z4 := hb4.size
      have zl := l.hb.size
      have hbl2 : Below l.w.heap.size l.w (l.w.alloc (.cells #[.int .i64 0, .int .i64 0, .int .u32 0, .int .u32 0, .int .i64 0, .int .i64 0, .int .i64 0, .slice none 0 0] 92)) := (Below.refl _ _).alloc (Nat.le_refl _) _
      have hg27 := blk_new l.w 92 #[.int .i64 0, .int .i64 0, .int .u32 0, .int .u32 0, .int .i64 0, .int .i64 0, .int .i64 0, .slice none 0 0]
      have hz27 : l.w.heap.size < (l.w.alloc (.cells #[.int .i64 0, .int .i64 0, .int .u32 0, .int .u32 0, .int .i64 0, .int .i64 0, .int .i64 0, .slice none 0 0] 92)).heap.size := by simp
      refine hK _ _ hbl2 ?_
      clear hK K
      generalize l.w.alloc (.cells #[.int .i64 0, .int .i64 0, .int .u32 0, .int .u32 0, .int .i64 0, .int .i64 0, .int .i64 0, .slice none 0 0] 92) = w6 at hbl2 hg27 hz27 ⊢
      refine wpE_end (by as_aux_lemma => kernel_rfl) (fun l2 => ?_)
      have zl2 := l2.hb.size
      have hg28 := blk_below l2.hb hz27 hg27
      have hBl : Below w2.heap.size w2 l2.w := (((hw3.trans (hb4.mono zw3)).trans (l.hb.mono (by omega))).trans (hbl2.mono (by omega))).trans (l2.hb.mono (by omega))
      have hcg := blk_cell hg28
      have hfg := blk_free hg28
      obtain ⟨w8, e8, hg8, g8⟩ := set8all hg28 (.int .i64 (s0 : Int)) (.int .i64 (s2 : Int)) (.int .u32 (IntKind.u32.wrap (x4 : Int))) (.int .u32 (IntKind.u32.wrap (x8 : Int))) (.int .i64 (v13 : Int)) (.int .i64 (IntKind.i64.wrap (x14 : Int))) (.int .i64 (IntKind.i64.wrap (x18 : Int))) (.slice A' (s - 20) c')
      have hB8 := hBl.trans (below_grown g8 (by omega) (by omega))
      have z8 := g8.size
      clear g8 hBl
      replace hg28 := hide hg28
      replace hg8 := hide hg8
      replace hB8 := hide hB8
      refine wpT_step 28 rfl (by as_aux_lemma => kernel_rfl) (fun K hK => ?_)
      go_simp
      refine hK _ _ ?_
      clear hK K hcg hfg e8
      refine wpT_done (by as_aux_lemma => kernel_rfl) ?_ 0
      go_wp2_with fail
      go_meet
      exact ⟨_, w8, _, _, _, _, _, _, _, rfl, hg8.out, by omega, by omega, hB8.out, rfl⟩
    · go_simp
      have zw3 := hw3.size
      have hbl2 : Below w3.heap.size w3 (w3.alloc (.cells #[.int .i64 0, .int .i64 0, .int .u32 0, .int .u32 0, .int .i64 0, .int .i64 0, .int .i64 0, .slice none 0 0] 92)) := (Below.refl _ _).alloc (Nat.le_refl _) _
      have hg27 := blk_new w3 92 #[.int .i64 0, .int .i64 0, .int .u32 0, .int .u32 0, .int .i64 0, .int .i64 0, .int .i64 0, .slice none 0 0]
      have hz27 : w3.heap.size < (w3.alloc (.cells #[.int .i64 0, .int .i64 0, .int .u32 0, .int .u32 0, .int .i64 0, .int .i64 0, .int .i64 0, .slice none 0 0] 92)).heap.size := by simp
      refine hK _ _ hbl2 ?_
      clear hK K
      generalize w3.alloc (.cells #[.int .i64 0, .int .i64 0, .int .u32 0, .int .u32 0, .int .i64 0, .int .i64 0, .int .i64 0, .slice none 0 0] 92) = w4 at hbl2 hg27 hz27 ⊢
      refine wpE_step 25 (fuel := 2) rfl (by as_aux_lemma => kernel_rfl) (fun l K hK => ?_)
      go_simp
      go_at_call 55
      refine (clone_any _ _ _ _ _ (((hxo.out.on hw3).on hbl2).later l) hxol).mono ?_
      rintro e w6 ⟨v, rfl, hown, hb6⟩
      obtain ⟨A', c', rfl, hc', hm', hi'⟩ := hown.form
      refine hK _ _ hb6 ?_
      clear hK K hown hi'
      refine wpE_seg 26 1 (fuel := 1) (by as_aux_lemma => kernel_rfl) (fun d _ _ _ _ h => by cases d <;> exact h) (by as_aux_lemma => kernel_rfl) (by as_aux_lemma => kernel_rfl) ?_
      simp only [List.drop_succ_cons, List.drop_zero, List.take_succ_cons, List.take_zero]
      iterate 1 (refine wpQE_step (fun K hK => ?_); go_simp; refine hK _ ?_; clear hK K)
      refine wpQE_nil ?_
      refine wpE_end (by as_aux_lemma => kernel_rfl) (fun l2 => ?_)
      have zl := l.hb.size
      have z6 := hb6.size
      have zl2 := l2.hb.size
      have hg28 := blk_below l2.hb (by omega) (blk_below hb6 (by omega) (blk_below l.hb hz27 hg27))
      have hBl : Below w2.heap.size w2 l2.w := (((hw3.trans (hbl2.mono zw3)).trans (l.hb.mono (by omega))).trans (hb6.mono (by omega))).trans (l2.hb.mono (by omega))
      have hcg := blk_cell hg28
      have hfg := blk_free hg28
      obtain ⟨w8, e8, hg8, g8⟩ := set8all hg28 (.int .i64 (s0 : Int)) (.int .i64 (s2 : Int)) (.int .u32 (IntKind.u32.wrap (x4 : Int))) (.int .u32 (IntKind.u32.wrap (x8 : Int))) (.int .i64 (v13 : Int)) (.int .i64 (IntKind.i64.wrap (x14 : Int))) (.int .i64 (IntKind.i64.wrap (x18 : Int))) (.slice A' (s - 20) c')
      have hB8 := hBl.trans (below_grown g8 (by omega) (by omega))
      have z8 := g8.size
      clear g8 hBl
      replace hg28 := hide hg28
      replace hg8 := hide hg8
      replace hB8 := hide hB8
      refine wpT_step 28 rfl (by as_aux_lemma => kernel_rfl) (fun K hK => ?_)
      go_simp
      refine hK _ _ ?_
      clear hK K hcg hfg e8
      refine wpT_done (by as_aux_lemma => kernel_rfl) ?_ 0
      go_wp2_with fail
      go_meet
      exact ⟨_, w8, _, _, _, _, _, _, _, rfl, hg8.out, by omega, by omega, hB8.out, rfl⟩
  case rest =>
  obtain ⟨g, w5, sq, ak, wn, ug, A', n', c', rfl, hg5, hgl, hgl2, hb5, rfl⟩ := hcut
  have z5 := hb5.size
  have hB5 := hb2.out.trans (hb5.mono (by omega))
  have hg05 := blk_below hb5 hlt2 hg2.out
  have hxr5 := hxr.out.on hb5
  have hcl := fun (l : Later w5) (o : Nat) => blk_cell (blk_below l.hb hgl2 hg5) o
  have hnl : n - s ≤ 1099511627776 := by omega
  clear hd13 j0 j2 j4 j8 j14 j18
  replace hg5 := hide hg5
  replace hB5 := hide hB5
  replace hg05 := hide hg05
  replace hxr5 := hide hxr5
  replace hb5 := hide hb5
  go_upto_region 9 with fail
  refine wp_region_L (by as_aux_lemma => kernel_rfl) ?_
  refine wpE_seg 0 4 (fuel := 4) (by as_aux_lemma => kernel_rfl) (fun d _ _ _ _ h => by cases d <;> exact h) (by as_aux_lemma => kernel_rfl) (by as_aux_lemma => kernel_rfl) ?_
  simp only [List.drop_zero, List.take_succ_cons, List.take_zero]
  iterate 4 (refine wpQE_step (fun K hK => ?_); go_simp; refine hK _ ?_; clear hK K)
  refine wpQE_nil ?_
  clear hcl
  refine wpE_step 4 (fuel := 3) rfl (by as_aux_lemma => kernel_rfl) (fun l K hK => ?_)
  go_simp
  go_at_call 55
  refine (clone_any _ _ _ _ _ (hxr5.out.later l) hnl).mono ?_
  rintro e w6 ⟨v, rfl, hown, hb6⟩
  obtain ⟨A7, c7, rfl, _, _, _⟩ := hown.form
  refine hK _ _ hb6 ?_
  clear hK K hown
  refine wpE_end (by as_aux_lemma => kernel_rfl) (fun l2 => ?_)
  have zl := l.hb.size
  have z6 := hb6.size
  have zl2 := l2.hb.size
  have hg06 := blk_below l2.hb (by omega) (blk_below hb6 (by omega) (blk_below l.hb (by omega) hg05.out))
  have hB6 := ((hB5.out.trans (l.hb.mono (by omega))).trans (hb6.mono (by omega))).trans (l2.hb.mono (by omega))
  have hcg := blk_cell hg06
  have hfg := blk_free hg06
  obtain ⟨w8, e8, hg8, g8⟩ := set8all hg06 (.int .i64 (s0 : Int)) (.int .i64 (s2 : Int)) (.int .u32 sq) (.int .u32 ak) (.int .i64 (v13 : Int)) (.int .i64 wn) (.int .i64 ug) (.slice A' n' c')
  have hB8 := hB6.trans (below_grown g8 (by omega) (Nat.le_refl _))
  have hcr := blk_cell hg8
  clear g8 hB6
  replace hg06 := hide hg06
  replace hg8 := hide hg8
  replace hB8 := hide hB8
  refine wpT_step 5 rfl (by as_aux_lemma => kernel_rfl) (fun K hK => ?_)
  go_simp
  refine hK _ _ ?_
  clear hK K hcg hfg e8
  refine wpT_step 6 rfl (by as_aux_lemma => kernel_rfl) (fun K hK => ?_)
  go_simp
  refine hK _ _ ?_
  clear hK K
  refine wpT_step 7 rfl (by as_aux_lemma => kernel_rfl) (fun K hK => ?_)
  go_simp
  refine hK _ _ ?_
  clear hK K
  refine wpT_done (by as_aux_lemma => kernel_rfl) ?_ 0
  go_wp2_with fail
  refine bodyPost_ret (v := .tuple #[hdV (s0 : Int) (s2 : Int) sq ak (v13 : Int) wn ug A' n' c', .slice A7 (n - s) c7, .int .i64 0]) (by simp [results, Try.results61, go_sem, hcr]) rfl ⟨sq, ak, wn, ug, A', n', c', A7, n - s, c7, ?_, hB8.out⟩
  unfold parseS parseF
  rw [if_pos rfl, if_pos rfl, if_pos rfl, hs0.out, hs22.out, hv13.out]
  rfl
end Tcp
end Go.Proofs.Ytdmgbngdpjcliaa
/- The law's bytes of a header and what is behind it, by contract. Conditions: a header that may be, options of at most 40 bytes, at most 300 bytes behind it. -/
namespace Go.Proofs.Ytdmgbngdpjcliaa
open Go.RowKit Go.ChangeShapes Go.WideShapes Go.ChangeAt Go.Deep
namespace Four
/-- A header's bytes, the check still 0. -/
def hdB0 (tos id fl ttl proto slo dlo : Nat) (os : List UInt8) (pl : Nat) : List UInt8 :=
  (((((([UInt8.ofNat (64 + (20 + os.length) / 4), UInt8.ofNat tos] ++ beB (20 + os.length + pl) 2) ++ beB id 2) ++ beB fl 2) ++ [UInt8.ofNat ttl, UInt8.ofNat proto, 0, 0]) ++ beB slo 4) ++ beB dlo 4) ++ os
theorem hdB0_length (tos id fl ttl proto slo dlo : Nat) (os : List UInt8) (pl : Nat) : (hdB0 tos id fl ttl proto slo dlo os pl).length = 20 + os.length := by
  simp [hdB0, beB_length]; omega
/-- .. with its check. -/
def hdB (tos id fl ttl proto slo dlo : Nat) (os : List UInt8) (pl : Nat) : List UInt8 :=
  setB (hdB0 tos id fl ttl proto slo dlo os pl) 10 (beB (65535 - Sum.ones (Sum.tot false (hdB0 tos id fl ttl proto slo dlo os pl))) 2)
theorem ofNat_mod (x : Nat) : UInt8.ofNat (x % 256) = UInt8.ofNat x := by
  apply UInt8.toNat_inj.1
  simp
theorem beB_four (N : Nat) : beB N 4 = beB (N / 65536) 2 ++ beB (N % 65536) 2 := by
  simp only [beB, List.cons_append, List.nil_append]
  have h1 : UInt8.ofNat (N % 65536 / 256 ^ 1) = UInt8.ofNat (N / 256 ^ 1) := by
    rw [← ofNat_mod (N % 65536 / 256 ^ 1), ← ofNat_mod (N / 256 ^ 1)]; congr 1; omega
  have h2 : UInt8.ofNat (N % 65536 / 256 ^ 0) = UInt8.ofNat (N / 256 ^ 0) := by
    rw [← ofNat_mod (N % 65536 / 256 ^ 0), ← ofNat_mod (N / 256 ^ 0)]; congr 1; omega
  rw [h1, h2]
  have h3 : N / 65536 / 256 ^ 1 = N / 256 ^ 3 := by omega
  have h4 : N / 65536 / 256 ^ 0 = N / 256 ^ 2 := by omega
  rw [h3, h4]
theorem hdB_set (tos id fl ttl proto slo dlo : Nat) (os : List UInt8) (pl C : Nat) (hC : 65535 - Sum.ones (Sum.tot false (hdB0 tos id fl ttl proto slo dlo os pl)) = C) : hdB tos id fl ttl proto slo dlo os pl = ((hdB0 tos id fl ttl proto slo dlo os pl).set 10 (UInt8.ofNat (C / 256))).set 11 (UInt8.ofNat C) := by
  unfold hdB
  rw [hC]
  simp [setB, hdB0, beB]
def flI (df mf : Bool) (frag : Nat) : Int := (frag : Int) + (if df then 16384 else 0) + (if mf then 8192 else 0)
end Four
end Go.Proofs.Ytdmgbngdpjcliaa
