/- The walk of AddrParses: it answers true. Condition: the cell of bytealg.MaxLen. -/
import Derived.Test.YtccmbnaakdffaaaDoorQAddrParses8
import Derived.Test.YtccmbnaakdffaaaDoorQAddrParses2
import Derived.Test.YtccmbnaakdffaaaDoorQAddrParses6
import Derived.HandedShaped
import Derived.LaidMore
import Derived.Lay
import Derived.OpenShut
import Derived.Shelf.Vars
import Derived.Stop.Joined
namespace Go.Proofs.YtccmbnaakdffaaaDoor
open Go.RowKit Go.ChangeShapes Go.WideShapes Go.ChangeAt Go.Deep
namespace Addr05
theorem str_extract (s : List UInt8) (a b : Nat) : (str s).extract a b = str ((s.take b).drop a) := by
  apply ByteArray.ext
  apply Array.ext'
  simp [str, List.drop_take]
set_option maxRecDepth 20000 in
set_option maxHeartbeats 8000000 in
theorem parses_walk (s : List UInt8) (v6 : Bool) (hi lo : Nat) (hhi : hi < 18446744073709551616) (hlo : lo < 18446744073709551616) (hsl : s.length ≤ 9223372036854775807) (w : World) (hm : MaxAt w) :
    Calls Tryd.prog 3 #[.string (str s), .agg #[.bool v6, .int .u64 (hi : Int), .int .u64 (lo : Int)]] w fun e w' => e = .returned (.bool true) ∧ Below w.heap.size w w' := by
  obtain ⟨w1, hw1⟩ : ∃ w1, w.alloc (.cells #[.bool v6, .int .u64 (hi : Int), .int .u64 (lo : Int)] 24) = w1 := ⟨_, rfl⟩
  have hB : Below w.heap.size w w1 := hw1 ▸ (Below.refl _ _).alloc (Nat.le_refl _) _
  have hg : w1.heap[w.heap.size]? = some (.cells #[.bool v6, .int .u64 (hi : Int), .int .u64 (lo : Int)] 24 (0, 0)) := hw1 ▸ blk_new _ _ _
  have hzw : w.heap.size < w1.heap.size := by rw [← hw1]; simp
  have hz : (str s).size = s.length := size_str s
  have hm1 := hm.below hB
  obtain ⟨s1, hs1⟩ : ∃ x, s.take 80 = x := ⟨_, rfl⟩
  have hl1 : s1.length ≤ 80 := by rw [← hs1, List.length_take]; omega
  replace hB := hide hB
  replace hg := hide hg
  replace hm1 := hide hm1
  replace hm := hide hm
  replace hs1 := hide hs1
  go_enter Tryd.func3, Tryd.ntmps3
  go_upto_if 9 with fail
  clear hw1
  go_cut [0] (fun sv wx => sv = .string (str s1) ∧ w1 = wx)
  case first =>
    by_cases h80 : 80 < s.length
    · have t1 : decide ((80 : Int) < (s.length : Int)) = true := by rw [decide_eq_true_eq]; omega
      have i1 : (80 : Int) ≤ (s.length : Int) := by omega
      have ex : (str s).extract 0 80 = str s1 := by rw [← hs1.out]; exact str_extract s 0 80
      replace hs1 := hide hs1
      go_wp2_with fail
      go_meet
      exact ⟨by first | rfl | rw [ex], rfl⟩
    · have t1 : decide ((80 : Int) < (s.length : Int)) = false := by rw [decide_eq_false_iff_not]; omega
      have e1 : s1 = s := by rw [← hs1.out]; exact List.take_of_length_le (by omega)
      replace h80 := hide h80
      subst e1
      go_wp2_with fail
      go_meet
      exact ⟨rfl, rfl⟩
  case rest =>
    obtain ⟨rfl, rfl⟩ := hcut
    clear hs1 hz hsl
    have hP := Parse_any s1 hl1 w1 hm1.out
    have hA := awake_any
    have hR1 := fun w => right_any v6 hi lo w
    have hT1 := fun w => ltext_any v6 hi lo hhi hlo w
    have hno : parseF s1 = none → rightB v6 hi lo = true → textL v6 hi lo ≠ s1 := by
      intro h1 h2 h3
      have h4 := parse_text ⟨v6, hi, lo⟩ ((rightB_iff _).1 h2) ⟨hhi, hlo⟩
      rw [show textA ⟨v6, hi, lo⟩ = s1 from h3, h1] at h4
      cases h4
    have hso : ∀ a, parseF s1 = some a → textA a = s1 ∧ a.ok ∧ a.right := fun a h => parse_some s1 a h
    obtain ⟨PF, hPF⟩ : ∃ x, parseF s1 = x := ⟨_, rfl⟩
    obtain ⟨RB, hRB⟩ : ∃ x, rightB v6 hi lo = x := ⟨_, rfl⟩
    obtain ⟨TL, hTL⟩ : ∃ x, textL v6 hi lo = x := ⟨_, rfl⟩
    rw [hPF] at hP hno hso
    rw [hRB] at hR1 hno
    rw [hTL] at hT1 hno
    clear hPF hRB hTL
    cases PF with
    | none =>
      have hP' : Calls Tryd.prog 11 #[.string (str s1)] w1 fun e w' => e = .returned (.tuple #[.agg #[.bool false, .int .u64 0, .int .u64 0], .int .i64 18]) ∧ Below w1.heap.size w1 w' := hP
      have hno' := hno rfl
      clear hP hno hso
      replace hP' := hide hP'
      replace hA := hide hA
      replace hR1 := hide hR1
      replace hT1 := hide hT1
      replace hno' := hide hno'
      go_upto_region 3 with fail
      apply wp_region_lit
      iterate 1 (refine wpList_plain rfl fun K hK => ?_; go_simp; refine hK _ _ ?_; clear hK K)
      refine wpList_plain rfl fun K hK => ?_
      go_simp
      refine (hP'.out).mono ?_
      rintro e w2 ⟨rfl, hb2⟩
      have hg2 := blk_below hb2 hzw hg.out
      have hB2 := hB.out.trans (hb2.mono hB.out.size)
      have hz2 := hb2.size
      have hm2 := hm1.out.below hb2
      clear hb2 hP' hg hB hm1
      replace hg2 := hide hg2
      replace hB2 := hide hB2
      replace hm2 := hide hm2
      go_simp
      refine hK _ _ ?_
      clear hK K
      iterate 3 (refine wpList_plain rfl fun K hK => ?_; go_simp; refine hK _ _ ?_; clear hK K)
      refine wpl_new rfl rfl 24 _ (alloc_adr _ rfl) 5 rfl (.tmp 15) rfl _ (fun _ => rfl) (fun _ => rfl) rfl (by kernel_rfl) (adr_one false 0 0) ?_
      intro w3 hg3 hb3 hz3
      have hg4 := blk_below hb3 (by omega) hg2.out
      have hB3 := hB2.out.trans (hb3.mono hB2.out.size)
      have hm3 := hm2.out.below hb3
      have hcg := blk_cell hg3
      have hca := blk_cell hg4
      clear hb3 hg2 hB2 hm2
      replace hg3 := hide hg3
      replace hB3 := hide hB3
      replace hm3 := hide hm3
      replace hg4 := hide hg4
      iterate 1 (refine wpList_plain rfl fun K hK => ?_; go_simp; refine hK _ _ ?_; clear hK K)
      refine wpList_nil ?_
      go_simp
      go_wp2_with fail
      refine (hR1.out w3).mono ?_
      rintro e w4 ⟨rfl, hb4⟩
      cases RB
      · have hB4 := hB3.out.trans (hb4.mono hB3.out.size)
        have hm4 := hm3.out.below hb4
        clear hb4 hcg hca
        replace hB4 := hide hB4
        go_wp2_with fail
        refine (hA.out w4 hm4).mono ?_
        rintro e w5 ⟨rfl, hb5⟩
        have hB5 := hB4.out.trans (hb5.mono hB4.out.size)
        clear hb5
        replace hB5 := hide hB5
        go_wp2_with fail
        go_ret
        exact ⟨rfl, hB5.out⟩
      · have hne := hno'.out rfl
        have hg5 := blk_below hb4 (by omega) hg4.out
        have hB4 := hB3.out.trans (hb4.mono hB3.out.size)
        have hm4 := hm3.out.below hb4
        clear hcg hca hb4
        have hca := blk_cell hg5
        have tq : ((str TL).toList == (str s1).toList) = false := by rw [str_toList, str_toList]; simpa using hne
        replace hB4 := hide hB4
        replace hg5 := hide hg5
        replace hne := hide hne
        replace hm4 := hide hm4
        go_wp2_with fail
        refine (hT1.out w4).mono ?_
        rintro e w5 ⟨rfl, hb5⟩
        have hB5 := hB4.out.trans (hb5.mono hB4.out.size)
        have hm5 := hm4.out.below hb5
        clear hb5 hca
        replace hB5 := hide hB5
        go_wp2_with fail
        refine (hA.out w5 hm5).mono ?_
        rintro e w6 ⟨rfl, hb6⟩
        have hB6 := hB5.out.trans (hb6.mono hB5.out.size)
        clear hb6
        replace hB6 := hide hB6
        go_wp2_with fail
        go_ret
        exact ⟨rfl, hB6.out⟩
    | some a =>
      obtain ⟨v, h, l⟩ := a
      obtain ⟨ht, ⟨ho1, ho2⟩, hr⟩ := hso _ rfl
      have hrb := (rightB_iff ⟨v, h, l⟩).2 hr
      have hP' : Calls Tryd.prog 11 #[.string (str s1)] w1 fun e w' => e = .returned (.tuple #[.agg #[.bool v, .int .u64 (h : Int), .int .u64 (l : Int)], .int .i64 0]) ∧ Below w1.heap.size w1 w' := hP
      have hR2 := fun w => right_any v h l w
      have hT2 := fun w => ltext_any v h l ho1 ho2 w
      dsimp only at hrb
      rw [hrb] at hR2
      rw [show textL v h l = s1 from ht] at hT2
      clear hP hno hso hR1 hT1 hrb hr ht
      replace hP' := hide hP'
      replace hA := hide hA
      replace hR2 := hide hR2
      replace hT2 := hide hT2
      go_upto_region 3 with fail
      apply wp_region_lit
      iterate 1 (refine wpList_plain rfl fun K hK => ?_; go_simp; refine hK _ _ ?_; clear hK K)
      refine wpList_plain rfl fun K hK => ?_
      go_simp
      refine (hP'.out).mono ?_
      rintro e w2 ⟨rfl, hb2⟩
      have hB2 := hB.out.trans (hb2.mono hB.out.size)
      have hz2 := hb2.size
      have hm2 := hm1.out.below hb2
      clear hb2 hP' hg hB hm1
      replace hB2 := hide hB2
      replace hm2 := hide hm2
      go_simp
      refine hK _ _ ?_
      clear hK K
      iterate 3 (refine wpList_plain rfl fun K hK => ?_; go_simp; refine hK _ _ ?_; clear hK K)
      refine wpl_new rfl rfl 24 _ (alloc_adr _ rfl) 5 rfl (.tmp 15) rfl _ (fun _ => rfl) (fun _ => rfl) rfl (by kernel_rfl) (adr_one v (h : Int) (l : Int)) ?_
      intro w3 hg3 hb3 hz3
      have hB3 := hB2.out.trans (hb3.mono hB2.out.size)
      have hm3 := hm2.out.below hb3
      have hcg := blk_cell hg3
      clear hb3 hB2 hm2
      replace hg3 := hide hg3
      replace hB3 := hide hB3
      replace hm3 := hide hm3
      iterate 1 (refine wpList_plain rfl fun K hK => ?_; go_simp; refine hK _ _ ?_; clear hK K)
      refine wpList_nil ?_
      go_simp
      go_wp2_with fail
      refine (hR2.out w3).mono ?_
      rintro e w4 ⟨rfl, hb4⟩
      have hg4 := blk_below hb4 hz3 hg3.out
      have hB4 := hB3.out.trans (hb4.mono hB3.out.size)
      have hm4 := hm3.out.below hb4
      clear hcg hb4
      have hcg := blk_cell hg4
      replace hB4 := hide hB4
      replace hg4 := hide hg4
      replace hm4 := hide hm4
      go_wp2_with fail
      refine (hT2.out w4).mono ?_
      rintro e w5 ⟨rfl, hb5⟩
      have hB5 := hB4.out.trans (hb5.mono hB4.out.size)
      have hm5 := hm4.out.below hb5
      clear hb5 hcg
      replace hB5 := hide hB5
      go_wp2_with fail
      refine (hA.out w5 hm5).mono ?_
      rintro e w6 ⟨rfl, hb6⟩
      have hB6 := hB5.out.trans (hb6.mono hB5.out.size)
      clear hb6
      replace hB6 := hide hB6
      go_wp2_with fail
      go_ret
      exact ⟨rfl, hB6.out⟩
theorem u64_nat {i : Int} (h : (Lit.int .u64 i).wf = true) : ∃ n : Nat, i = (n : Int) ∧ n < 18446744073709551616 := by
  have h2 := u64_wf h
  exact ⟨i.toNat, by omega, by omega⟩
theorem str_data (s : ByteArray) : str s.data.toList = s := by
  apply ByteArray.ext
  rfl
theorem parses_row (s : ByteArray) (v6 : Bool) (hi lo : Int) (w : World) (hs : s.size ≤ maxLen) (h1 : (Lit.int .u64 hi).wf = true) (h2 : (Lit.int .u64 lo).wf = true) (hm : MaxAt w) :
    Calls Tryd.prog 3 #[.string s, .agg #[.bool v6, .int .u64 hi, .int .u64 lo]] w fun e w' => e = .returned (.bool true) ∧ Below w.heap.size w w' := by
  obtain ⟨hi, rfl, h1'⟩ := u64_nat h1
  obtain ⟨lo, rfl, h2'⟩ := u64_nat h2
  have h := parses_walk s.data.toList v6 hi lo h1' h2' (by unfold maxLen at hs; rw [Array.length_toList]; exact hs) w hm
  rw [str_data] at h
  exact h
end Addr05
end Go.Proofs.YtccmbnaakdffaaaDoor
/- A row that lists variables, met: the wrap that keeps what they hold and the world's shape; the cell of bytealg.MaxLen. No condition. -/
namespace Go.Proofs.YtccmbnaakdffaaaDoor
open Go.RowKit Go.ChangeShapes Go.WideShapes Go.ChangeAt Go.Deep
theorem returns_laid {H : Type} {enc : TypeId × Value → H} {a : Assume} {C : Checked} {os : Os} {f : FuncId} {fn : Func} {s : ChangeSpec} {conds : List PathCond} {apart fresh handsOn again : Bool} {X : World → Array Value → Prop}
    (hX : ∀ (w w' : World) (args : Array Value), w.heap = w'.heap → X w args → X w' args)
    (own : ownKnob C.prog.godebug = none) (started : os.Started) (noInit : C.prog.inits.idxOf? f = none) (hfn : C.prog.funcs[f]? = some fn)
    (witness : ∃ (w : World) (tape : Tape) (i : Input), w.os = os ∧ (w.forCall tape i).Shaped C.prog ∧ i.vars = [] ∧ Input.okWide C.prog (w.forCall tape i) .any w.heap.size f i ∧
      ((s.pre enc C.prog fn conds apart (w.forCall tape i).memory i.args ∧ X (w.forCall tape i).memory i.args) ∧ sizedMet enc C.prog fn (OpenSpec.ofChange s) apart (w.forCall tape i).memory i.args) ∧ a.holds C.prog (lone (Frame.enter C.prog f i.args .normal) [] (w.forCall tape i)))
    (contract : ∀ (W : World) (base : Nat) (args : Array Value) (ds gs : List (DataW H)) (before : List MemPlace),
      (∀ (j : Nat) t v, fn.params[j]? = some t → args[j]? = some v → Value.okWide C.prog W .any base t v) →
      DataW.Whole enc C.prog fn.params.toList s.vars apart W args.toList ds gs before →
      conds.all (PathCond.test C.prog ⟨fn.params.toList, ds, s.plain.varTypes C.prog, gs⟩) = true →
      X W args → W.ShapedOpen C.prog →
      Calls C.prog f args W fun e W' => ∃ v, e = .returned v ∧ s.post enc C.prog fn apart fresh handsOn again W args v W') :
    ReturnsInHanded a C os f .any (fun w args => (s.pre enc C.prog fn conds apart w args ∧ X w args) ∧ sizedMet enc C.prog fn (OpenSpec.ofChange s) apart w args) (s.post enc C.prog fn apart fresh handsOn again) := by
  refine returnsInHanded_of_calls own started noInit witness ?_
  intro w tape i _ hsh _ hok hpre _
  obtain ⟨_, _, _, fn', hfn', _, _, _, _, hval⟩ := hok
  have e : fn' = fn := Option.some.inj (hfn'.symm.trans hfn)
  subst e
  obtain ⟨⟨⟨ds, gs, before, hw, hc⟩, hx⟩, _⟩ := hpre
  have hw' := DataW.Whole.of_heap (w' := w.forCall tape i) (by rfl) hw
  refine (contract (w.forCall tape i) w.heap.size i.args ds gs before hval hw' hc (hX _ _ _ (by rfl) hx) hsh).mono fun e W' ⟨v, he, hp⟩ => ?_
  subst he
  exact ChangeSpec.post_blind hp
theorem maxAt_of {w : World} (h : w.ShapedOpen Tryd.prog) : Addr05.MaxAt w :=
  cell_of_shapedOpen_int (t := 3) (zero := #[.int .i64 0]) h (of_decide_eq_true (by kernel_rfl)) (by kernel_rfl) rfl (by kernel_rfl) (by kernel_rfl) Tryd.underlying3
end Go.Proofs.YtccmbnaakdffaaaDoor
