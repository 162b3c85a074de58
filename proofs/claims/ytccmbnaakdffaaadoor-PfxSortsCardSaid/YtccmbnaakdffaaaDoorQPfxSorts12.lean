/- slices: insertionSort, on a row of prefixes. Conditions: the tags rise. -/
import Derived.Test.YtccmbnaakdffaaaDoorQPfxSorts11
namespace Go.Proofs.YtccmbnaakdffaaaDoor
open Go.RowKit Go.ChangeShapes Go.WideShapes Go.ChangeAt Go.Deep
namespace Sort06
/-- The comparison, as a value. -/
def cmpV : Value := .func (.func 58) #[] #[]
set_option maxRecDepth 20000 in
set_option maxHeartbeats 8000000 in
theorem insertion_any (g n c a b : Nat) (X : Nat → El) (hab : a ≤ b) (hb : b ≤ n) (hn : n ≤ 1099511627776) (hu : Up X a b) (w : World) (h : RowF w g n X) :
    Calls Tryd.prog 73 #[.slice (some ⟨g, 0, none⟩) n c, .int .i64 (a : Int), .int .i64 (b : Int), cmpV] w fun e w' => e = .returned (.tuple #[]) ∧ ∃ Y, RowF w' g n Y ∧ PermOn a b X Y ∧ Srt Y a b ∧ w.grownBy w' (some g) := by
  unfold cmpV
  have wa : IntKind.i64.wrap ((a : Int) + 1) = ((a + 1 : Nat) : Int) := by rw [wraps62 _ (by omega) (by omega)]; omega
  by_cases hlt0 : a < b
  · replace h := hide h
    replace hu := hide hu
    go_enter Tryd.func73, Tryd.ntmps73
    go_wp2_with fail
    go_loopw [8, 9] (fun iv _ wr => ∃ (i : Nat) (Y : Nat → El), a + 1 ≤ i ∧ i ≤ b ∧ iv = .int .i64 (i : Int) ∧ RowF wr g n Y ∧ PermOn a i X Y ∧ Srt Y a i ∧ w.grownBy wr (some g)) (fun iv _ _ => b - (intOf iv).toNat)
    case atStart => exact ⟨a + 1, X, Nat.le_refl _, by omega, by first | rfl | go_num, h.out, PermOn.refl _ _ _, fun i j h1 h2 h3 => by omega, grown_refl _ _⟩
    case round =>
      obtain ⟨i, Y0, hai, hib, rfl, hr0, hp0, hs0, hg0⟩ := hrel
      by_cases hil : i < b
      · have hlt : (i : Int) < (b : Int) := by omega
        have hI0 := Ins.start hp0 hs0 hu.out (by omega) hil
        have hY0 : PermOn a (i + 1) X Y0 := hp0.wide (Nat.le_refl _) (by omega) (by omega)
        clear hp0 hs0
        replace hr0 := hide hr0
        replace hg0 := hide hg0
        replace hI0 := hide hI0
        replace hY0 := hide hY0
        go_wp2_with fail
        go_loopw [9] (fun jv wr => ∃ (j : Nat) (Y : Nat → El), jv = .int .i64 (j : Int) ∧ RowF wr g n Y ∧ Ins a i j X Y ∧ PermOn a (i + 1) X Y ∧ w.grownBy wr (some g)) (fun jv _ => (intOf jv).toNat)
        case atStart => exact ⟨i, Y0, rfl, hr0.out, hI0.out, hY0.out, hg0.out⟩
        case round =>
          obtain ⟨p, Y, rfl, hr, hI, hPX, hg⟩ := hrel
          have hap := hI.le
          have hpi := hI.hi
          by_cases hpa : p = a
          · have hS := hI.stop (.inl hpa)
            have t1 : ¬ (a : Int) < (p : Int) := by omega
            clear hI
            replace hr := hide hr
            replace hS := hide hS
            replace hPX := hide hPX
            replace hg := hide hg
            go_upto_region 4 with fail
            refine wp_region_L (by as_aux_lemma => kernel_rfl) ?_
            refine wpE_seg 0 17 (fuel := 0) (by as_aux_lemma => kernel_rfl) (fun d _ _ _ _ h => by cases d <;> exact h) (by as_aux_lemma => kernel_rfl) (by as_aux_lemma => kernel_rfl) ?_
            simp only [List.drop_zero, List.take_succ_cons, List.take_zero]
            iterate 3 (refine wpQE_step (fun K hK => ?_); go_simp; refine hK _ ?_; clear hK K)
            refine wpQE_val_skip (.bool false) 12 rfl (fun l => rfl) (by as_aux_lemma => kernel_rfl) ?_
            dsimp only [putU, List.take_succ_cons, List.take_zero, List.drop_succ_cons, List.drop_zero, Act.put]
            iterate 1 (refine wpQE_step (fun K hK => ?_); go_simp; refine hK _ ?_; clear hK K)
            refine wpQE_nil ?_
            refine wpE_done (by as_aux_lemma => kernel_rfl) (fun w9 hb9 => ?_) 0
            have hr9 := hr.out.below hb9
            have hg9 := grown_trans' _ _ _ hg.out (grown_of_below hb9)
            clear hr hg hb9
            replace hr9 := hide hr9
            replace hg9 := hide hg9
            go_wp2_with fail
            exact ⟨⟨i + 1, Y, by omega, by omega, by first | rfl | go_num, hr9.out, hPX.out, hS.out, hg9.out⟩, by simp only [intOf]; omega⟩
          · obtain ⟨q, hq⟩ : ∃ q, p = q + 1 := ⟨p - 1, by omega⟩
            have t1 : (a : Int) < (p : Int) := by omega
            have wq : IntKind.i64.wrap ((p : Int) - 1) = (q : Int) := by rw [wraps62 _ (by omega) (by omega)]; omega
            have i1 : p < n := by omega
            have i2 : q < n := by omega
            have i3 : (p : Int) < (n : Int) := by omega
            have i4 : (q : Int) < (n : Int) := by omega
            have hpq : p ≠ q := by omega
            have gl := hr.lt
            have p0 := fun (l : Later wr) => (hr.below l.hb).c0 i1
            have p1 := fun (l : Later wr) => (hr.below l.hb).c1 i1
            have p2 := fun (l : Later wr) => (hr.below l.hb).c2 i1
            have p3 := fun (l : Later wr) => (hr.below l.hb).c3 i1
            have q0 := fun (l : Later wr) => (hr.below l.hb).c0 i2
            have q1 := fun (l : Later wr) => (hr.below l.hb).c1 i2
            have q2 := fun (l : Later wr) => (hr.below l.hb).c2 i2
            have q3 := fun (l : Later wr) => (hr.below l.hb).c3 i2
            have hc := fun w => cmp_any (Y p) (Y q) w
            have hcl := cmpE_lt (Y p) (Y q)
            have hqp : q < p := by omega
            replace hq := hide hq
            obtain ⟨E, hE⟩ : ∃ E, cmpE (Y p) (Y q) = E := ⟨_, rfl⟩
            rw [hE] at hc hcl
            unfold elA at hc
            clear hE
            by_cases hk : E < 0
            · have hkl := hcl.1 hk
              have hI2 : Ins a i q X (sw Y p q) := by
                have hq := hq.out
                subst hq
                exact hI.step (by omega) hkl
              have hP2 : PermOn a (i + 1) X (sw Y p q) := by
                have hq := hq.out
                subst hq
                rw [sw_comm]
                exact hPX.trans ((sw_perm Y q).wide (by omega) (by omega) (by omega))
              clear hcl hkl hI hPX
              replace hr := hide hr
              replace hg := hide hg
              replace hc := hide hc
              replace hI2 := hide hI2
              replace hP2 := hide hP2
              go_upto_region 4 with fail
              refine wp_region_L (by as_aux_lemma => kernel_rfl) ?_
              refine wpE_seg 0 17 (fuel := 0) (by as_aux_lemma => kernel_rfl) (fun d _ _ _ _ h => by cases d <;> exact h) (by as_aux_lemma => kernel_rfl) (by as_aux_lemma => kernel_rfl) ?_
              simp only [List.drop_zero, List.take_succ_cons, List.take_zero]
              iterate 14 (refine wpQE_step (fun K hK => ?_); go_simp; refine hK _ ?_; clear hK K)
              (refine wpQE_step (fun K hK => ?_); go_simp; apply Exists.intro; refine ⟨fun l => ?_, hK _ ?_⟩; (go_at_call 58; refine (hc.out l.w).mono ?_; rintro e w' ⟨rfl, hb⟩; exact ⟨rfl, hb⟩); clear hK K)
              iterate 2 (refine wpQE_step (fun K hK => ?_); go_simp; refine hK _ ?_; clear hK K)
              refine wpQE_nil ?_
              refine wpE_done (by as_aux_lemma => kernel_rfl) (fun w9 hb9 => ?_) 0
              clear p0 p1 p2 p3 q0 q1 q2 q3
              have hr9 := hr.out.below hb9
              have hg9 := grown_trans' _ _ _ hg.out (grown_of_below hb9)
              clear hr hg hb9 hc
              replace hr9 := hide hr9
              replace hg9 := hide hg9
              go_upto_region 6 with fail
              refine wp_region_W [15, 17] w9.heap.size (fun j => j = g) (by as_aux_lemma => kernel_rfl) ?_
              intro wd hbd
              have hRd := hr9.out.below hbd
              have hgd : w.grownBy wd (some g) := grown_trans' _ _ _ hg9.out (grown_of_below hbd)
              have hzd := hbd.size
              have hgw := hr9.out.lt
              have kR := fun (l : KeptSW w9.heap.size (fun _ => False) wd) => hRd.on (l.hk.block g hgw id)
              have p0 := fun l => (kR l).c0 i1
              have p1 := fun l => (kR l).c1 i1
              have p2 := fun l => (kR l).c2 i1
              have p3 := fun l => (kR l).c3 i1
              have q0 := fun l => (kR l).c0 i2
              have q1 := fun l => (kR l).c1 i2
              have q2 := fun l => (kR l).c2 i2
              have q3 := fun l => (kR l).c3 i2
              clear kR
              replace hRd := hide hRd
              replace hgd := hide hgd
              refine wpWH_seg [15, 17] w9.heap.size (fun j => j = g) 0 2 (fuel := 16) (by as_aux_lemma => kernel_rfl) (fun d _ _ _ _ h => by cases d <;> exact h) (by as_aux_lemma => kernel_rfl) (by as_aux_lemma => kernel_rfl) (by as_aux_lemma => kernel_rfl) ?_
              simp only [List.drop_zero, List.take_succ_cons, List.take_zero]
              iterate 2 (refine wpQS_step (fun K hK => ?_); go_simp; refine hK _ ?_; clear hK K)
              refine wpQF_nil ?_
              refine wpWS_seg [15, 17] w9.heap.size (fun j => j = g) 2 3 (fuel := 13) (by as_aux_lemma => kernel_rfl) (fun d _ _ _ _ h => by cases d <;> exact h) (by as_aux_lemma => kernel_rfl) (by as_aux_lemma => kernel_rfl) ?_
              simp only [List.drop_succ_cons, List.drop_zero, List.take_succ_cons, List.take_zero]
              iterate 3 (refine wpQS_step (fun K hK => ?_); go_simp; refine hK _ ?_; clear hK K)
              refine wpQF_nil ?_
              refine wpWH_seg [15, 17] w9.heap.size (fun j => j = g) 5 5 (fuel := 8) (by as_aux_lemma => kernel_rfl) (fun d _ _ _ _ h => by cases d <;> exact h) (by as_aux_lemma => kernel_rfl) (by as_aux_lemma => kernel_rfl) (by as_aux_lemma => kernel_rfl) ?_
              simp only [List.drop_succ_cons, List.drop_zero, List.take_succ_cons, List.take_zero]
              iterate 5 (refine wpQS_step (fun K hK => ?_); go_simp; refine hK _ ?_; clear hK K)
              refine wpQF_nil ?_
              refine wpWS_seg [15, 17] w9.heap.size (fun j => j = g) 10 3 (fuel := 5) (by as_aux_lemma => kernel_rfl) (fun d _ _ _ _ h => by cases d <;> exact h) (by as_aux_lemma => kernel_rfl) (by as_aux_lemma => kernel_rfl) ?_
              simp only [List.drop_succ_cons, List.drop_zero, List.take_succ_cons, List.take_zero]
              iterate 3 (refine wpQS_step (fun K hK => ?_); go_simp; refine hK _ ?_; clear hK K)
              refine wpQF_nil ?_
              refine wpWH_seg [15, 17] w9.heap.size (fun j => j = g) 13 1 (fuel := 4) (by as_aux_lemma => kernel_rfl) (fun d _ _ _ _ h => by cases d <;> exact h) (by as_aux_lemma => kernel_rfl) (by as_aux_lemma => kernel_rfl) (by as_aux_lemma => kernel_rfl) ?_
              simp only [List.drop_succ_cons, List.drop_zero, List.take_succ_cons, List.take_zero]
              iterate 1 (refine wpQS_step (fun K hK => ?_); go_simp; refine hK _ ?_; clear hK K)
              refine wpQF_nil ?_
              clear p0 p1 p2 p3 q0 q1 q2 q3
              refine wpW_step 14 rfl (by as_aux_lemma => kernel_rfl) (fun K hK => ?_)
              go_simp
              refine hK _ _ (relS_refl _ _ _ _ _) ?_
              clear hK K
              obtain ⟨cs, hcs, hcl, hput⟩ := hRd.out.store i1 (Y q)
              refine wpW_step 15 rfl (by as_aux_lemma => kernel_rfl) (fun K hK => ?_)
              rw [if_pos (by unfold Region.wanted; rfl)]
              refine wp_st 45 (.tmp 51) (.tmp 46) rfl g (p * 4) rfl (elA (Y q)) rfl hcs hcl (by kernel_rfl) (elA_one _) fun w21 h1 g1 => hK _ _ (relS_of rfl ⟨g1.os, g1.tape, g1.output, g1.size, fun j hj hne => g1.block j (by omega) (fun e => hne (by cases e; rfl))⟩) ?_
              clear hK K
              have hR21 := hput w21 h1
              have hg21 := grown_trans' _ _ _ hgd.out g1
              have hz21 := g1.size
              clear hcs hcl hput h1 g1 hRd hgd
              replace hR21 := hide hR21
              replace hg21 := hide hg21
              refine wpW_step 16 rfl (by as_aux_lemma => kernel_rfl) (fun K hK => ?_)
              go_simp
              refine hK _ _ (relS_refl _ _ _ _ _) ?_
              clear hK K
              obtain ⟨cs2, hcs2, hcl2, hput2⟩ := hR21.out.store i2 (Y p)
              refine wpW_step 17 rfl (by as_aux_lemma => kernel_rfl) (fun K hK => ?_)
              rw [if_pos (by unfold Region.wanted; rfl)]
              refine wp_st 45 (.tmp 52) (.tmp 50) rfl g (q * 4) rfl (elA (Y p)) rfl hcs2 hcl2 (by kernel_rfl) (elA_one _) fun w23 h1 g1 => hK _ _ (relS_of rfl ⟨g1.os, g1.tape, g1.output, g1.size, fun j hj hne => g1.block j (by omega) (fun e => hne (by cases e; rfl))⟩) ?_
              clear hK K
              have hR23 := hput2 w23 h1
              rw [sw_upd _ hpq] at hR23
              have hg23 := grown_trans' _ _ _ hg21.out g1
              clear hcs2 hcl2 hput2 h1 g1 hR21 hg21
              refine wpW_done (by as_aux_lemma => kernel_rfl) ?_ _
              replace hR23 := hide hR23
              replace hg23 := hide hg23
              go_wp2_with fail
              exact ⟨⟨q, _, by first | rfl | go_num, hR23.out, hI2.out, hP2.out, hg23.out⟩, by simp only [intOf, Int.toNat_natCast]; omega⟩
            · have hS := hI.stop (.inr (fun hkk => hk (hcl.2 (by
                have e : p - 1 = q := by have := hq.out; omega
                rw [e] at hkk
                exact hkk))))
              clear hcl hI
              replace hr := hide hr
              replace hS := hide hS
              replace hPX := hide hPX
              replace hg := hide hg
              replace hc := hide hc
              go_upto_region 4 with fail
              refine wp_region_L (by as_aux_lemma => kernel_rfl) ?_
              refine wpE_seg 0 17 (fuel := 0) (by as_aux_lemma => kernel_rfl) (fun d _ _ _ _ h => by cases d <;> exact h) (by as_aux_lemma => kernel_rfl) (by as_aux_lemma => kernel_rfl) ?_
              simp only [List.drop_zero, List.take_succ_cons, List.take_zero]
              iterate 14 (refine wpQE_step (fun K hK => ?_); go_simp; refine hK _ ?_; clear hK K)
              (refine wpQE_step (fun K hK => ?_); go_simp; apply Exists.intro; refine ⟨fun l => ?_, hK _ ?_⟩; (go_at_call 58; refine (hc.out l.w).mono ?_; rintro e w' ⟨rfl, hb⟩; exact ⟨rfl, hb⟩); clear hK K)
              iterate 2 (refine wpQE_step (fun K hK => ?_); go_simp; refine hK _ ?_; clear hK K)
              refine wpQE_nil ?_
              refine wpE_done (by as_aux_lemma => kernel_rfl) (fun w9 hb9 => ?_) 0
              clear p0 p1 p2 p3 q0 q1 q2 q3
              have hr9 := hr.out.below hb9
              have hg9 := grown_trans' _ _ _ hg.out (grown_of_below hb9)
              clear hr hg hb9 hc
              replace hr9 := hide hr9
              replace hg9 := hide hg9
              go_wp2_with fail
              exact ⟨⟨i + 1, Y, by omega, by omega, by first | rfl | go_num, hr9.out, hPX.out, hS.out, hg9.out⟩, by simp only [intOf]; omega⟩
      · obtain rfl : i = b := by omega
        have hlt : ((i : Int) < (i : Int)) = False := by simp
        replace hr0 := hide hr0
        replace hp0 := hide hp0
        replace hs0 := hide hs0
        replace hg0 := hide hg0
        go_wp2_with fail
        refine bodyPost_end (v := .tuple #[]) (by simp [results, Tryd.results73, go_sem]) rfl ⟨rfl, Y0, hr0.out, hp0.out, hs0.out, hg0.out⟩
  · obtain rfl : a = b := by omega
    have hlt1 : ¬ ((a + 1 : Nat) : Int) < (a : Int) := by omega
    replace h := hide h
    go_enter Tryd.func73, Tryd.ntmps73
    go_wp2_with fail
    refine wp_loop_rounds 1 ?_
    rw [rounds_succ]
    go_wp2_with fail
    refine bodyPost_end (v := .tuple #[]) (by simp [results, Tryd.results73, go_sem]) rfl ⟨rfl, X, h.out, PermOn.refl _ _ _, fun i j h1 h2 h3 => by omega, grown_refl _ _⟩
end Sort06
end Go.Proofs.YtccmbnaakdffaaaDoor
/- slices: symMerge, on a row of prefixes: where one part is a single element. Conditions: both parts are sorted, and what stands ahead stood ahead. -/
namespace Go.Proofs.YtccmbnaakdffaaaDoor
open Go.RowKit Go.ChangeShapes Go.WideShapes Go.ChangeAt Go.Deep
namespace Sort06
/-- What symMerge leaves. -/
def SymEnd (g n a b : Nat) (X : Nat → El) (w w' : World) : Prop := ∃ Y, RowF w' g n Y ∧ PermOn a b X Y ∧ Srt Y a b ∧ w.grownBy w' (some g)
theorem wrap64_small (x : Int) (h0 : 0 ≤ x) (h1 : x < 4611686018427387904) : wrap64 x = x := by unfold wrap64; omega
theorem wrap_half {i j s q : Nat} (hs : i + j = s) (hq : s / 2 = q) (h : s ≤ 2199023255552) : wrap64 ((s : Int) / 2) = (q : Int) := by
  rw [wrap64_small _ (by omega) (by omega)]
  omega
theorem wrap_succ {q : Nat} (h : q < 1099511627776) : IntKind.i64.wrap ((q : Int) + 1) = ((q + 1 : Nat) : Int) := by rw [wraps62 _ (by omega) (by omega)]; omega
theorem half_lt {i j s q : Nat} (h : i < j) (hs : i + j = s) (hq : s / 2 = q) : i ≤ q ∧ q < j := by omega
set_option maxRecDepth 20000 in
set_option maxHeartbeats 8000000 in
theorem symA (g n c : Nat) (hn : n ≤ 1099511627776) (a b : Nat) (X : Nat → El) (h2 : a + 1 < b) (hb : b ≤ n) (hs2 : Srt X (a + 1) b) (htg : Tg X a (a + 1) b) (w : World) (h : RowF w g n X) :
    Calls Tryd.prog 74 #[.slice (some ⟨g, 0, none⟩) n c, .int .i64 (a : Int), .int .i64 ((a + 1 : Nat) : Int), .int .i64 (b : Int), cmpV] w fun e w' => e = .returned (.tuple #[]) ∧ SymEnd g n a b X w w' := by
  unfold cmpV
  obtain ⟨m, hm⟩ : ∃ m, a + 1 = m := ⟨_, rfl⟩
  rw [hm] at hs2 htg ⊢
  have t0 : IntKind.i64.wrap ((m : Int) - (a : Int)) = 1 := by rw [wraps62 _ (by omega) (by omega)]; omega
  have ham : a < m := by omega
  have hmb : m < b := by omega
  have ia : a < n := by omega
  have ia' : (a : Int) < (n : Int) := by omega
  replace h := hide h
  replace hs2 := hide hs2
  replace htg := hide htg
  replace hm := hide hm
  go_enter Tryd.func74, Tryd.ntmps74
  go_wp2_with fail
  go_loopw [10, 11, 12] (fun iv jv _ wr => ∃ i j : Nat, m ≤ i ∧ i ≤ j ∧ j ≤ b ∧ iv = .int .i64 (i : Int) ∧ jv = .int .i64 (j : Int) ∧ (∀ k, m ≤ k → k < i → R (X k) (X a)) ∧ (∀ k, j ≤ k → k < b → R (X a) (X k)) ∧ RowF wr g n X ∧ w.grownBy wr (some g)) (fun iv jv _ _ => (intOf jv).toNat - (intOf iv).toNat)
  case atStart => exact ⟨m, b, Nat.le_refl _, by omega, Nat.le_refl _, rfl, rfl, fun k h1 h2 => by omega, fun k h1 h2 => by omega, h.out, grown_refl _ _⟩
  case round =>
    obtain ⟨i, j, hmi, hij, hjb, rfl, rfl, hlo, hup, hr, hg⟩ := hrel
    by_cases hlt : i < j
    · have i0 : (i : Int) < (j : Int) := by omega
      have w1 : IntKind.i64.wrap ((i : Int) + (j : Int)) = ((i + j : Nat) : Int) := by rw [wraps62 _ (by omega) (by omega)]; omega
      have w2 : IntKind.u64.wrap ((i + j : Nat) : Int) = ((i + j : Nat) : Int) := wrapsu64 _ (by omega) (by omega)
      have hsb : i + j ≤ 2199023255552 := by omega
      obtain ⟨s, hs⟩ : ∃ s, i + j = s := ⟨_, rfl⟩
      rw [hs] at w1 w2 hsb
      obtain ⟨q, hq⟩ : ∃ q, s / 2 = q := ⟨_, rfl⟩
      have w3 : wrap64 ((s : Int) / 2) = (q : Int) := wrap_half hs hq hsb
      obtain ⟨hiq, hqj⟩ := half_lt hlt hs hq
      replace hs := hide hs
      replace hq := hide hq
      clear hsb
      have hqn : q < 1099511627776 := by clear w1 w2 w3; omega
      have w4 : IntKind.i64.wrap ((q : Int) + 1) = ((q + 1 : Nat) : Int) := wrap_succ hqn
      have iq : q < n := by clear w1 w2 w3 w4; omega
      have iq' : (q : Int) < (n : Int) := by clear w1 w2 w3 w4; omega
      have gl := hr.lt
      have p0 := fun (l : Later wr) => (hr.below l.hb).c0 iq
      have p1 := fun (l : Later wr) => (hr.below l.hb).c1 iq
      have p2 := fun (l : Later wr) => (hr.below l.hb).c2 iq
      have p3 := fun (l : Later wr) => (hr.below l.hb).c3 iq
      have q0 := fun (l : Later wr) => (hr.below l.hb).c0 ia
      have q1 := fun (l : Later wr) => (hr.below l.hb).c1 ia
      have q2 := fun (l : Later wr) => (hr.below l.hb).c2 ia
      have q3 := fun (l : Later wr) => (hr.below l.hb).c3 ia
      have hc := fun w => cmp_any (X q) (X a) w
      have hcl := cmpE_lt (X q) (X a)
      obtain ⟨E, hE⟩ : ∃ E, cmpE (X q) (X a) = E := ⟨_, rfl⟩
      rw [hE] at hc hcl
      unfold elA at hc
      clear hE
      by_cases hk : E < 0
      · have hkl := R_of_kl (hcl.1 hk)
        have hlo2 : ∀ k, m ≤ k → k < q + 1 → R (X k) (X a) := fun k h1 h2 => by
          by_cases hkq : k = q
          · rw [hkq]; exact hkl
          · exact (hs2.out k q h1 (by omega) (by omega)).trans hkl
        clear hcl hkl hlo
        replace hlo2 := hide hlo2
        replace hup := hide hup
        replace hr := hide hr
        replace hg := hide hg
        replace hc := hide hc
        go_upto_region 5 with fail
        refine wp_region_L (by as_aux_lemma => kernel_rfl) ?_
        refine wpE_seg 0 11 (fuel := 0) (by as_aux_lemma => kernel_rfl) (fun d _ _ _ _ h => by cases d <;> exact h) (by as_aux_lemma => kernel_rfl) (by as_aux_lemma => kernel_rfl) ?_
        simp only [List.drop_zero, List.take_succ_cons, List.take_zero]
        iterate 9 (refine wpQE_step (fun K hK => ?_); go_simp; refine hK _ ?_; clear hK K)
        (refine wpQE_step (fun K hK => ?_); go_simp; apply Exists.intro; refine ⟨fun l => ?_, hK _ ?_⟩; (go_at_call 58; refine (hc.out l.w).mono ?_; rintro e w' ⟨rfl, hb⟩; exact ⟨rfl, hb⟩); clear hK K)
        iterate 1 (refine wpQE_step (fun K hK => ?_); go_simp; refine hK _ ?_; clear hK K)
        refine wpQE_nil ?_
        refine wpE_done (by as_aux_lemma => kernel_rfl) (fun w9 hb9 => ?_) 0
        clear p0 p1 p2 p3 q0 q1 q2 q3
        have hr9 := hr.out.below hb9
        have hg9 := grown_trans' _ _ _ hg.out (grown_of_below hb9)
        clear hr hg hb9 hc
        replace hr9 := hide hr9
        replace hg9 := hide hg9
        go_wp2_with fail
        exact ⟨⟨q + 1, j, by omega, by omega, hjb, by first | rfl | go_num, rfl, hlo2.out, hup.out, hr9.out, hg9.out⟩, by simp only [intOf, Int.toNat_natCast]; omega⟩
      · have hkl : R (X a) (X q) := R_of_not (fun h => hk (hcl.2 h)) (htg.out a q (Nat.le_refl _) ham (by omega) (by omega))
        have hup2 : ∀ k, q ≤ k → k < b → R (X a) (X k) := fun k h1 h2 => by
          by_cases hkq : k = q
          · rw [hkq]; exact hkl
          · exact hkl.trans (hs2.out q k (by omega) (by omega) h2)
        clear hcl hkl hup
        replace hlo := hide hlo
        replace hup2 := hide hup2
        replace hr := hide hr
        replace hg := hide hg
        replace hc := hide hc
        go_upto_region 5 with fail
        refine wp_region_L (by as_aux_lemma => kernel_rfl) ?_
        refine wpE_seg 0 11 (fuel := 0) (by as_aux_lemma => kernel_rfl) (fun d _ _ _ _ h => by cases d <;> exact h) (by as_aux_lemma => kernel_rfl) (by as_aux_lemma => kernel_rfl) ?_
        simp only [List.drop_zero, List.take_succ_cons, List.take_zero]
        iterate 9 (refine wpQE_step (fun K hK => ?_); go_simp; refine hK _ ?_; clear hK K)
        (refine wpQE_step (fun K hK => ?_); go_simp; apply Exists.intro; refine ⟨fun l => ?_, hK _ ?_⟩; (go_at_call 58; refine (hc.out l.w).mono ?_; rintro e w' ⟨rfl, hb⟩; exact ⟨rfl, hb⟩); clear hK K)
        iterate 1 (refine wpQE_step (fun K hK => ?_); go_simp; refine hK _ ?_; clear hK K)
        refine wpQE_nil ?_
        refine wpE_done (by as_aux_lemma => kernel_rfl) (fun w9 hb9 => ?_) 0
        clear p0 p1 p2 p3 q0 q1 q2 q3
        have hr9 := hr.out.below hb9
        have hg9 := grown_trans' _ _ _ hg.out (grown_of_below hb9)
        clear hr hg hb9 hc
        replace hr9 := hide hr9
        replace hg9 := hide hg9
        go_wp2_with fail
        exact ⟨⟨i, q, hmi, hiq, by omega, rfl, by first | rfl | go_num, hlo.out, hup2.out, hr9.out, hg9.out⟩, by simp only [intOf, Int.toNat_natCast]; omega⟩
    · obtain rfl : i = j := by omega
      have i0 : ((i : Int) < (i : Int)) = False := by simp
      have hfin : Srt (mvR X a (i - 1)) a b := mvR_srt X (hm.out ▸ hs2.out) (by have := hm.out; omega) hjb (fun k h1 h2 => hlo k (by have := hm.out; omega) h2) hup
      have hper : PermOn a b X (mvR X a (i - 1)) := by
        have h := mvR_perm X a b (i - 1 - a) (by omega)
        rwa [show a + (i - 1 - a) = i - 1 by omega] at h
      obtain ⟨e, he⟩ : ∃ e, i - 1 = e := ⟨_, rfl⟩
      rw [he] at hfin hper
      have wi : IntKind.i64.wrap ((i : Int) - 1) = (e : Int) := by rw [wraps62 _ (by omega) (by omega)]; omega
      have hae : a ≤ e := by omega
      have hei : e < b := by omega
      clear hlo hup
      replace hr := hide hr
      replace hg := hide hg
      replace hfin := hide hfin
      replace hper := hide hper
      replace he := hide he
      go_wp2_with fail
      go_loopw [13] (fun kv wr => ∃ k : Nat, a ≤ k ∧ k ≤ e ∧ kv = .int .i64 (k : Int) ∧ RowF wr g n (mvR X a k) ∧ w.grownBy wr (some g)) (fun kv _ => e - (intOf kv).toNat)
      case atStart => exact ⟨a, Nat.le_refl _, hae, rfl, by rw [mvR_zero]; exact hr.out, hg.out⟩
      case round =>
        clear hr hg
        obtain ⟨p, hap, hpe, rfl, hr, hg⟩ := hrel
        by_cases hlt2 : p < e
        · have i9 : (p : Int) < (e : Int) := by omega
          obtain ⟨q, hq⟩ : ∃ q, p + 1 = q := ⟨_, rfl⟩
          have wq : IntKind.i64.wrap ((p : Int) + 1) = (q : Int) := by rw [wraps62 _ (by omega) (by omega)]; omega
          have i1 : p < n := by omega
          have i2 : q < n := by omega
          have i3 : (p : Int) < (n : Int) := by omega
          have i4 : (q : Int) < (n : Int) := by omega
          have hpq : p ≠ q := by omega
          have hqe : q ≤ e := by omega
          have hpq2 : p < q := by omega
          have hsw := mvR_succ X a p hap
          rw [hq] at hsw
          obtain ⟨Y, hY⟩ : ∃ Y, mvR X a p = Y := ⟨_, rfl⟩
          rw [hY] at hr hsw
          clear hY
          replace hr := hide hr
          replace hg := hide hg
          replace hq := hide hq
          replace hsw := hide hsw
          go_upto_region 11 with fail
          refine wp_region_W [15, 17] wr.heap.size (fun j => j = g) (by as_aux_lemma => kernel_rfl) ?_
          intro wd hbd
          have hRd := hr.out.below hbd
          have hgd : w.grownBy wd (some g) := grown_trans' _ _ _ hg.out (grown_of_below hbd)
          have hzd := hbd.size
          have hgw := hr.out.lt
          have kR := fun (l : KeptSW wr.heap.size (fun _ => False) wd) => hRd.on (l.hk.block g hgw id)
          have p0 := fun l => (kR l).c0 i1
          have p1 := fun l => (kR l).c1 i1
          have p2 := fun l => (kR l).c2 i1
          have p3 := fun l => (kR l).c3 i1
          have q0 := fun l => (kR l).c0 i2
          have q1 := fun l => (kR l).c1 i2
          have q2 := fun l => (kR l).c2 i2
          have q3 := fun l => (kR l).c3 i2
          clear kR
          replace hRd := hide hRd
          replace hgd := hide hgd
          refine wpWH_seg [15, 17] wr.heap.size (fun j => j = g) 0 2 (fuel := 16) (by as_aux_lemma => kernel_rfl) (fun d _ _ _ _ h => by cases d <;> exact h) (by as_aux_lemma => kernel_rfl) (by as_aux_lemma => kernel_rfl) (by as_aux_lemma => kernel_rfl) ?_
          simp only [List.drop_zero, List.take_succ_cons, List.take_zero]
          iterate 2 (refine wpQS_step (fun K hK => ?_); go_simp; refine hK _ ?_; clear hK K)
          refine wpQF_nil ?_
          refine wpWS_seg [15, 17] wr.heap.size (fun j => j = g) 2 3 (fuel := 13) (by as_aux_lemma => kernel_rfl) (fun d _ _ _ _ h => by cases d <;> exact h) (by as_aux_lemma => kernel_rfl) (by as_aux_lemma => kernel_rfl) ?_
          simp only [List.drop_succ_cons, List.drop_zero, List.take_succ_cons, List.take_zero]
          iterate 3 (refine wpQS_step (fun K hK => ?_); go_simp; refine hK _ ?_; clear hK K)
          refine wpQF_nil ?_
          refine wpWH_seg [15, 17] wr.heap.size (fun j => j = g) 5 5 (fuel := 8) (by as_aux_lemma => kernel_rfl) (fun d _ _ _ _ h => by cases d <;> exact h) (by as_aux_lemma => kernel_rfl) (by as_aux_lemma => kernel_rfl) (by as_aux_lemma => kernel_rfl) ?_
          simp only [List.drop_succ_cons, List.drop_zero, List.take_succ_cons, List.take_zero]
          iterate 5 (refine wpQS_step (fun K hK => ?_); go_simp; refine hK _ ?_; clear hK K)
          refine wpQF_nil ?_
          refine wpWS_seg [15, 17] wr.heap.size (fun j => j = g) 10 3 (fuel := 5) (by as_aux_lemma => kernel_rfl) (fun d _ _ _ _ h => by cases d <;> exact h) (by as_aux_lemma => kernel_rfl) (by as_aux_lemma => kernel_rfl) ?_
          simp only [List.drop_succ_cons, List.drop_zero, List.take_succ_cons, List.take_zero]
          iterate 3 (refine wpQS_step (fun K hK => ?_); go_simp; refine hK _ ?_; clear hK K)
          refine wpQF_nil ?_
          refine wpWH_seg [15, 17] wr.heap.size (fun j => j = g) 13 1 (fuel := 4) (by as_aux_lemma => kernel_rfl) (fun d _ _ _ _ h => by cases d <;> exact h) (by as_aux_lemma => kernel_rfl) (by as_aux_lemma => kernel_rfl) (by as_aux_lemma => kernel_rfl) ?_
          simp only [List.drop_succ_cons, List.drop_zero, List.take_succ_cons, List.take_zero]
          iterate 1 (refine wpQS_step (fun K hK => ?_); go_simp; refine hK _ ?_; clear hK K)
          refine wpQF_nil ?_
          clear p0 p1 p2 p3 q0 q1 q2 q3
          refine wpW_step 14 rfl (by as_aux_lemma => kernel_rfl) (fun K hK => ?_)
          go_simp
          refine hK _ _ (relS_refl _ _ _ _ _) ?_
          clear hK K
          obtain ⟨cs, hcs, hcl, hput⟩ := hRd.out.store i1 (Y q)
          refine wpW_step 15 rfl (by as_aux_lemma => kernel_rfl) (fun K hK => ?_)
          rw [if_pos (by unfold Region.wanted; rfl)]
          refine wp_st 45 (.tmp 75) (.tmp 70) rfl g (p * 4) rfl (elA (Y q)) rfl hcs hcl (by kernel_rfl) (elA_one _) fun w21 h1 g1 => hK _ _ (relS_of rfl ⟨g1.os, g1.tape, g1.output, g1.size, fun j hj hne => g1.block j (by omega) (fun e => hne (by cases e; rfl))⟩) ?_
          clear hK K
          have hR21 := hput w21 h1
          have hg21 := grown_trans' _ _ _ hgd.out g1
          have hz21 := g1.size
          clear hcs hcl hput h1 g1 hRd hgd
          replace hR21 := hide hR21
          replace hg21 := hide hg21
          refine wpW_step 16 rfl (by as_aux_lemma => kernel_rfl) (fun K hK => ?_)
          go_simp
          refine hK _ _ (relS_refl _ _ _ _ _) ?_
          clear hK K
          obtain ⟨cs2, hcs2, hcl2, hput2⟩ := hR21.out.store i2 (Y p)
          refine wpW_step 17 rfl (by as_aux_lemma => kernel_rfl) (fun K hK => ?_)
          rw [if_pos (by unfold Region.wanted; rfl)]
          refine wp_st 45 (.tmp 76) (.tmp 74) rfl g (q * 4) rfl (elA (Y p)) rfl hcs2 hcl2 (by kernel_rfl) (elA_one _) fun w23 h1 g1 => hK _ _ (relS_of rfl ⟨g1.os, g1.tape, g1.output, g1.size, fun j hj hne => g1.block j (by omega) (fun e => hne (by cases e; rfl))⟩) ?_
          clear hK K
          have hR23 := hput2 w23 h1
          rw [sw_upd _ hpq] at hR23
          have hg23 := grown_trans' _ _ _ hg21.out g1
          clear hcs2 hcl2 hput2 h1 g1 hR21 hg21
          refine wpW_done (by as_aux_lemma => kernel_rfl) ?_ _
          rw [hsw.out] at hR23
          replace hR23 := hide hR23
          replace hg23 := hide hg23
          go_wp2_with fail
          exact ⟨⟨q, by omega, hqe, by first | rfl | go_num, hR23.out, hg23.out⟩, by simp only [intOf, Int.toNat_natCast]; omega⟩
        · obtain rfl : p = e := by omega
          have i9 : ((p : Int) < (p : Int)) = False := by simp
          replace hr := hide hr
          replace hg := hide hg
          go_wp2_with fail
          refine bodyPost_ret (v := .tuple #[]) (by simp [results, Tryd.results74, go_sem]) rfl ⟨rfl, _, hr.out, hper.out, hfin.out, hg.out⟩
set_option maxRecDepth 20000 in
set_option maxHeartbeats 8000000 in
theorem symB (g n c : Nat) (hn : n ≤ 1099511627776) (a m : Nat) (X : Nat → El) (ham : a < m) (hne : m ≠ a + 1) (hb : m + 1 ≤ n) (hs1 : Srt X a m) (htg : Tg X a m (m + 1)) (w : World) (h : RowF w g n X) :
    Calls Tryd.prog 74 #[.slice (some ⟨g, 0, none⟩) n c, .int .i64 (a : Int), .int .i64 (m : Int), .int .i64 ((m + 1 : Nat) : Int), cmpV] w fun e w' => e = .returned (.tuple #[]) ∧ SymEnd g n a (m + 1) X w w' := by
  unfold cmpV
  obtain ⟨b, hm⟩ : ∃ b, m + 1 = b := ⟨_, rfl⟩
  rw [hm] at htg hb ⊢
  obtain ⟨d0, hd0⟩ : ∃ d, m - a = d := ⟨_, rfl⟩
  have t0 : IntKind.i64.wrap ((m : Int) - (a : Int)) = (d0 : Int) := by rw [wraps62 _ (by omega) (by omega)]; omega
  have t00 : ((d0 : Int) == 1) = false := by simp; omega
  have t01 : ¬ (d0 : Int) = 1 := by omega
  have t1 : IntKind.i64.wrap ((b : Int) - (m : Int)) = 1 := by rw [wraps62 _ (by omega) (by omega)]; omega
  have ia : m < n := by omega
  have ia' : (m : Int) < (n : Int) := by omega
  have hmb : m < b := by omega
  replace h := hide h
  replace hs1 := hide hs1
  replace htg := hide htg
  replace hm := hide hm
  replace hd0 := hide hd0
  go_enter Tryd.func74, Tryd.ntmps74
  go_wp2_with fail
  go_loopw [14, 15, 16] (fun iv jv _ wr => ∃ i j : Nat, a ≤ i ∧ i ≤ j ∧ j ≤ m ∧ iv = .int .i64 (i : Int) ∧ jv = .int .i64 (j : Int) ∧ (∀ k, a ≤ k → k < i → R (X k) (X m)) ∧ (∀ k, j ≤ k → k < m → R (X m) (X k)) ∧ RowF wr g n X ∧ w.grownBy wr (some g)) (fun iv jv _ _ => (intOf jv).toNat - (intOf iv).toNat)
  case atStart => exact ⟨a, m, Nat.le_refl _, by omega, Nat.le_refl _, rfl, rfl, fun k h1 h2 => by omega, fun k h1 h2 => by omega, h.out, grown_refl _ _⟩
  case round =>
    obtain ⟨i, j, hmi, hij, hjb, rfl, rfl, hlo, hup, hr, hg⟩ := hrel
    by_cases hlt : i < j
    · have i0 : (i : Int) < (j : Int) := by omega
      have w1 : IntKind.i64.wrap ((i : Int) + (j : Int)) = ((i + j : Nat) : Int) := by rw [wraps62 _ (by omega) (by omega)]; omega
      have w2 : IntKind.u64.wrap ((i + j : Nat) : Int) = ((i + j : Nat) : Int) := wrapsu64 _ (by omega) (by omega)
      have hsb : i + j ≤ 2199023255552 := by omega
      obtain ⟨s, hs⟩ : ∃ s, i + j = s := ⟨_, rfl⟩
      rw [hs] at w1 w2 hsb
      obtain ⟨q, hq⟩ : ∃ q, s / 2 = q := ⟨_, rfl⟩
      have w3 : wrap64 ((s : Int) / 2) = (q : Int) := wrap_half hs hq hsb
      obtain ⟨hiq, hqj⟩ := half_lt hlt hs hq
      replace hs := hide hs
      replace hq := hide hq
      clear hsb
      have hqn : q < 1099511627776 := by clear w1 w2 w3; omega
      have w4 : IntKind.i64.wrap ((q : Int) + 1) = ((q + 1 : Nat) : Int) := wrap_succ hqn
      have iq : q < n := by clear w1 w2 w3 w4; omega
      have iq' : (q : Int) < (n : Int) := by clear w1 w2 w3 w4; omega
      have gl := hr.lt
      have p0 := fun (l : Later wr) => (hr.below l.hb).c0 ia
      have p1 := fun (l : Later wr) => (hr.below l.hb).c1 ia
      have p2 := fun (l : Later wr) => (hr.below l.hb).c2 ia
      have p3 := fun (l : Later wr) => (hr.below l.hb).c3 ia
      have q0 := fun (l : Later wr) => (hr.below l.hb).c0 iq
      have q1 := fun (l : Later wr) => (hr.below l.hb).c1 iq
      have q2 := fun (l : Later wr) => (hr.below l.hb).c2 iq
      have q3 := fun (l : Later wr) => (hr.below l.hb).c3 iq
      have hc := fun w => cmp_any (X m) (X q) w
      have hcl := cmpE_lt (X m) (X q)
      obtain ⟨E, hE⟩ : ∃ E, cmpE (X m) (X q) = E := ⟨_, rfl⟩
      rw [hE] at hc hcl
      unfold elA at hc
      clear hE
      by_cases hk : E < 0
      · have hkl := R_of_kl (hcl.1 hk)
        have hup2 : ∀ k, q ≤ k → k < m → R (X m) (X k) := fun k h1 h2 => by
          by_cases hkq : k = q
          · rw [hkq]; exact hkl
          · exact hkl.trans (hs1.out q k (by omega) (by omega) h2)
        clear hcl hkl hup
        replace hlo := hide hlo
        replace hup2 := hide hup2
        replace hr := hide hr
        replace hg := hide hg
        replace hc := hide hc
        go_upto_region 17 with fail
        refine wp_region_L (by as_aux_lemma => kernel_rfl) ?_
        refine wpE_seg 0 12 (fuel := 0) (by as_aux_lemma => kernel_rfl) (fun d _ _ _ _ h => by cases d <;> exact h) (by as_aux_lemma => kernel_rfl) (by as_aux_lemma => kernel_rfl) ?_
        simp only [List.drop_zero, List.take_succ_cons, List.take_zero]
        iterate 9 (refine wpQE_step (fun K hK => ?_); go_simp; refine hK _ ?_; clear hK K)
        (refine wpQE_step (fun K hK => ?_); go_simp; apply Exists.intro; refine ⟨fun l => ?_, hK _ ?_⟩; (go_at_call 58; refine (hc.out l.w).mono ?_; rintro e w' ⟨rfl, hb⟩; exact ⟨rfl, hb⟩); clear hK K)
        iterate 2 (refine wpQE_step (fun K hK => ?_); go_simp; refine hK _ ?_; clear hK K)
        refine wpQE_nil ?_
        refine wpE_done (by as_aux_lemma => kernel_rfl) (fun w9 hb9 => ?_) 0
        clear p0 p1 p2 p3 q0 q1 q2 q3
        have hr9 := hr.out.below hb9
        have hg9 := grown_trans' _ _ _ hg.out (grown_of_below hb9)
        clear hr hg hb9 hc
        replace hr9 := hide hr9
        replace hg9 := hide hg9
        go_wp2_with fail
        exact ⟨⟨i, q, hmi, hiq, by omega, rfl, by first | rfl | go_num, hlo.out, hup2.out, hr9.out, hg9.out⟩, by simp only [intOf, Int.toNat_natCast]; omega⟩
      · have hkl : R (X q) (X m) := R_of_not (fun h => hk (hcl.2 h)) (htg.out q m (by omega) (by omega) (Nat.le_refl _) hmb)
        have hlo2 : ∀ k, a ≤ k → k < q + 1 → R (X k) (X m) := fun k h1 h2 => by
          by_cases hkq : k = q
          · rw [hkq]; exact hkl
          · exact (hs1.out k q h1 (by omega) (by omega)).trans hkl
        clear hcl hkl hlo
        replace hlo2 := hide hlo2
        replace hup := hide hup
        replace hr := hide hr
        replace hg := hide hg
        replace hc := hide hc
        go_upto_region 17 with fail
        refine wp_region_L (by as_aux_lemma => kernel_rfl) ?_
        refine wpE_seg 0 12 (fuel := 0) (by as_aux_lemma => kernel_rfl) (fun d _ _ _ _ h => by cases d <;> exact h) (by as_aux_lemma => kernel_rfl) (by as_aux_lemma => kernel_rfl) ?_
        simp only [List.drop_zero, List.take_succ_cons, List.take_zero]
        iterate 9 (refine wpQE_step (fun K hK => ?_); go_simp; refine hK _ ?_; clear hK K)
        (refine wpQE_step (fun K hK => ?_); go_simp; apply Exists.intro; refine ⟨fun l => ?_, hK _ ?_⟩; (go_at_call 58; refine (hc.out l.w).mono ?_; rintro e w' ⟨rfl, hb⟩; exact ⟨rfl, hb⟩); clear hK K)
        iterate 2 (refine wpQE_step (fun K hK => ?_); go_simp; refine hK _ ?_; clear hK K)
        refine wpQE_nil ?_
        refine wpE_done (by as_aux_lemma => kernel_rfl) (fun w9 hb9 => ?_) 0
        clear p0 p1 p2 p3 q0 q1 q2 q3
        have hr9 := hr.out.below hb9
        have hg9 := grown_trans' _ _ _ hg.out (grown_of_below hb9)
        clear hr hg hb9 hc
        replace hr9 := hide hr9
        replace hg9 := hide hg9
        go_wp2_with fail
        exact ⟨⟨q + 1, j, by omega, by omega, hjb, by first | rfl | go_num, rfl, hlo2.out, hup.out, hr9.out, hg9.out⟩, by simp only [intOf, Int.toNat_natCast]; omega⟩
    · obtain rfl : i = j := by omega
      have i0 : ((i : Int) < (i : Int)) = False := by simp
      have hfin : Srt (mvL X m i) a b := hm.out ▸ mvL_srt X hs1.out hmi hjb hlo hup
      have hper : PermOn a b X (mvL X m i) := by
        have h := mvL_perm X a m (m - i) (by omega)
        rw [show m - (m - i) = i by omega] at h
        exact hm.out ▸ h
      clear hlo hup
      replace hr := hide hr
      replace hg := hide hg
      replace hfin := hide hfin
      replace hper := hide hper
      go_wp2_with fail
      go_loopw [17] (fun kv wr => ∃ k : Nat, i ≤ k ∧ k ≤ m ∧ kv = .int .i64 (k : Int) ∧ RowF wr g n (mvL X m k) ∧ w.grownBy wr (some g)) (fun kv _ => (intOf kv).toNat)
      case atStart => exact ⟨m, hjb, Nat.le_refl _, rfl, by rw [mvL_zero]; exact hr.out, hg.out⟩
      case round =>
        clear hr hg
        obtain ⟨p, hip, hpm, rfl, hr, hg⟩ := hrel
        by_cases hlt2 : i < p
        · have i9 : (i : Int) < (p : Int) := by omega
          obtain ⟨q, hq⟩ : ∃ q, p - 1 = q := ⟨_, rfl⟩
          have wq : IntKind.i64.wrap ((p : Int) - 1) = (q : Int) := by rw [wraps62 _ (by omega) (by omega)]; omega
          have i1 : p < n := by omega
          have i2 : q < n := by omega
          have i3 : (p : Int) < (n : Int) := by omega
          have i4 : (q : Int) < (n : Int) := by omega
          have hpq : p ≠ q := by omega
          have hqe : i ≤ q := by omega
          have hpq2 : q < p := by omega
          have hsw := mvL_succ X m q (by omega)
          rw [show q + 1 = p by omega] at hsw
          obtain ⟨Y, hY⟩ : ∃ Y, mvL X m p = Y := ⟨_, rfl⟩
          rw [hY] at hr hsw
          clear hY
          replace hr := hide hr
          replace hg := hide hg
          replace hq := hide hq
          replace hsw := hide hsw
          go_upto_region 23 with fail
          refine wp_region_W [15, 17] wr.heap.size (fun j => j = g) (by as_aux_lemma => kernel_rfl) ?_
          intro wd hbd
          have hRd := hr.out.below hbd
          have hgd : w.grownBy wd (some g) := grown_trans' _ _ _ hg.out (grown_of_below hbd)
          have hzd := hbd.size
          have hgw := hr.out.lt
          have kR := fun (l : KeptSW wr.heap.size (fun _ => False) wd) => hRd.on (l.hk.block g hgw id)
          have p0 := fun l => (kR l).c0 i1
          have p1 := fun l => (kR l).c1 i1
          have p2 := fun l => (kR l).c2 i1
          have p3 := fun l => (kR l).c3 i1
          have q0 := fun l => (kR l).c0 i2
          have q1 := fun l => (kR l).c1 i2
          have q2 := fun l => (kR l).c2 i2
          have q3 := fun l => (kR l).c3 i2
          clear kR
          replace hRd := hide hRd
          replace hgd := hide hgd
          refine wpWH_seg [15, 17] wr.heap.size (fun j => j = g) 0 2 (fuel := 16) (by as_aux_lemma => kernel_rfl) (fun d _ _ _ _ h => by cases d <;> exact h) (by as_aux_lemma => kernel_rfl) (by as_aux_lemma => kernel_rfl) (by as_aux_lemma => kernel_rfl) ?_
          simp only [List.drop_zero, List.take_succ_cons, List.take_zero]
          iterate 2 (refine wpQS_step (fun K hK => ?_); go_simp; refine hK _ ?_; clear hK K)
          refine wpQF_nil ?_
          refine wpWS_seg [15, 17] wr.heap.size (fun j => j = g) 2 3 (fuel := 13) (by as_aux_lemma => kernel_rfl) (fun d _ _ _ _ h => by cases d <;> exact h) (by as_aux_lemma => kernel_rfl) (by as_aux_lemma => kernel_rfl) ?_
          simp only [List.drop_succ_cons, List.drop_zero, List.take_succ_cons, List.take_zero]
          iterate 3 (refine wpQS_step (fun K hK => ?_); go_simp; refine hK _ ?_; clear hK K)
          refine wpQF_nil ?_
          refine wpWH_seg [15, 17] wr.heap.size (fun j => j = g) 5 5 (fuel := 8) (by as_aux_lemma => kernel_rfl) (fun d _ _ _ _ h => by cases d <;> exact h) (by as_aux_lemma => kernel_rfl) (by as_aux_lemma => kernel_rfl) (by as_aux_lemma => kernel_rfl) ?_
          simp only [List.drop_succ_cons, List.drop_zero, List.take_succ_cons, List.take_zero]
          iterate 5 (refine wpQS_step (fun K hK => ?_); go_simp; refine hK _ ?_; clear hK K)
          refine wpQF_nil ?_
          refine wpWS_seg [15, 17] wr.heap.size (fun j => j = g) 10 3 (fuel := 5) (by as_aux_lemma => kernel_rfl) (fun d _ _ _ _ h => by cases d <;> exact h) (by as_aux_lemma => kernel_rfl) (by as_aux_lemma => kernel_rfl) ?_
          simp only [List.drop_succ_cons, List.drop_zero, List.take_succ_cons, List.take_zero]
          iterate 3 (refine wpQS_step (fun K hK => ?_); go_simp; refine hK _ ?_; clear hK K)
          refine wpQF_nil ?_
          refine wpWH_seg [15, 17] wr.heap.size (fun j => j = g) 13 1 (fuel := 4) (by as_aux_lemma => kernel_rfl) (fun d _ _ _ _ h => by cases d <;> exact h) (by as_aux_lemma => kernel_rfl) (by as_aux_lemma => kernel_rfl) (by as_aux_lemma => kernel_rfl) ?_
          simp only [List.drop_succ_cons, List.drop_zero, List.take_succ_cons, List.take_zero]
          iterate 1 (refine wpQS_step (fun K hK => ?_); go_simp; refine hK _ ?_; clear hK K)
          refine wpQF_nil ?_
          clear p0 p1 p2 p3 q0 q1 q2 q3
          refine wpW_step 14 rfl (by as_aux_lemma => kernel_rfl) (fun K hK => ?_)
          go_simp
          refine hK _ _ (relS_refl _ _ _ _ _) ?_
          clear hK K
          obtain ⟨cs, hcs, hcl, hput⟩ := hRd.out.store i1 (Y q)
          refine wpW_step 15 rfl (by as_aux_lemma => kernel_rfl) (fun K hK => ?_)
          rw [if_pos (by unfold Region.wanted; rfl)]
          refine wp_st 45 (.tmp 127) (.tmp 122) rfl g (p * 4) rfl (elA (Y q)) rfl hcs hcl (by kernel_rfl) (elA_one _) fun w21 h1 g1 => hK _ _ (relS_of rfl ⟨g1.os, g1.tape, g1.output, g1.size, fun j hj hne => g1.block j (by omega) (fun e => hne (by cases e; rfl))⟩) ?_
          clear hK K
          have hR21 := hput w21 h1
          have hg21 := grown_trans' _ _ _ hgd.out g1
          have hz21 := g1.size
          clear hcs hcl hput h1 g1 hRd hgd
          replace hR21 := hide hR21
          replace hg21 := hide hg21
          refine wpW_step 16 rfl (by as_aux_lemma => kernel_rfl) (fun K hK => ?_)
          go_simp
          refine hK _ _ (relS_refl _ _ _ _ _) ?_
          clear hK K
          obtain ⟨cs2, hcs2, hcl2, hput2⟩ := hR21.out.store i2 (Y p)
          refine wpW_step 17 rfl (by as_aux_lemma => kernel_rfl) (fun K hK => ?_)
          rw [if_pos (by unfold Region.wanted; rfl)]
          refine wp_st 45 (.tmp 128) (.tmp 126) rfl g (q * 4) rfl (elA (Y p)) rfl hcs2 hcl2 (by kernel_rfl) (elA_one _) fun w23 h1 g1 => hK _ _ (relS_of rfl ⟨g1.os, g1.tape, g1.output, g1.size, fun j hj hne => g1.block j (by omega) (fun e => hne (by cases e; rfl))⟩) ?_
          clear hK K
          have hR23 := hput2 w23 h1
          rw [sw_upd _ hpq] at hR23
          have hg23 := grown_trans' _ _ _ hg21.out g1
          clear hcs2 hcl2 hput2 h1 g1 hR21 hg21
          refine wpW_done (by as_aux_lemma => kernel_rfl) ?_ _
          rw [hsw.out] at hR23
          replace hR23 := hide hR23
          replace hg23 := hide hg23
          go_wp2_with fail
          exact ⟨⟨q, hqe, by omega, by first | rfl | go_num, hR23.out, hg23.out⟩, by simp only [intOf, Int.toNat_natCast]; omega⟩
        · obtain rfl : p = i := by omega
          have i9 : ((p : Int) < (p : Int)) = False := by simp
          replace hr := hide hr
          replace hg := hide hg
          go_wp2_with fail
          refine bodyPost_ret (v := .tuple #[]) (by simp [results, Tryd.results74, go_sem]) rfl ⟨rfl, _, hr.out, hper.out, hfin.out, hg.out⟩
end Sort06
end Go.Proofs.YtccmbnaakdffaaaDoor
