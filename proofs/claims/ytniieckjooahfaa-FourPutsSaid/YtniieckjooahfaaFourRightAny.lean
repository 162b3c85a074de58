/- Which headers may be: the code's and the law's answers, for every header. No condition. -/
import Derived.Test.YtniieckjooahfaaFourRight
namespace Go.Proofs.Ytniieckjooahfaa
open Go.RowKit Go.ChangeShapes Go.WideShapes Go.ChangeAt Go.Deep
namespace Four
/-- May a header be? -/
def rightB (tos id frag ttl proto : Int) (sv : Bool) (shi slo : Int) (dv : Bool) (dhi dlo : Int) (n : Nat) : Bool :=
  decide (0 ≤ tos ∧ tos ≤ 255 ∧ 0 ≤ ttl ∧ ttl ≤ 255 ∧ 0 ≤ proto ∧ proto ≤ 255 ∧ 0 ≤ id ∧ id ≤ 65535 ∧ 0 ≤ frag ∧ frag ≤ 8191 ∧ sv = false ∧ dv = false ∧ okA sv shi slo = true ∧ okA dv dhi dlo = true ∧ n ≤ 40 ∧ n % 4 = 0)
theorem rightB_no {tos id frag ttl proto : Int} {sv : Bool} {shi slo : Int} {dv : Bool} {dhi dlo : Int} {n : Nat}
    (h : ¬ (0 ≤ tos ∧ tos ≤ 255 ∧ 0 ≤ ttl ∧ ttl ≤ 255 ∧ 0 ≤ proto ∧ proto ≤ 255 ∧ 0 ≤ id ∧ id ≤ 65535 ∧ 0 ≤ frag ∧ frag ≤ 8191 ∧ sv = false ∧ dv = false ∧ okA sv shi slo = true ∧ okA dv dhi dlo = true ∧ n ≤ 40 ∧ n % 4 = 0)) :
    Ending.returned (.bool false) = .returned (.bool (rightB tos id frag ttl proto sv shi slo dv dhi dlo n)) := by
  unfold rightB
  rw [decide_eq_false h]
theorem rightB_yes {tos id frag ttl proto : Int} {sv : Bool} {shi slo : Int} {dv : Bool} {dhi dlo : Int} {n : Nat}
    (h : 0 ≤ tos ∧ tos ≤ 255 ∧ 0 ≤ ttl ∧ ttl ≤ 255 ∧ 0 ≤ proto ∧ proto ≤ 255 ∧ 0 ≤ id ∧ id ≤ 65535 ∧ 0 ≤ frag ∧ frag ≤ 8191 ∧ sv = false ∧ dv = false ∧ okA sv shi slo = true ∧ okA dv dhi dlo = true) (h1 : n ≤ 40) :
    Ending.returned (.bool ((n : Int) % 4 == 0)) = .returned (.bool (rightB tos id frag ttl proto sv shi slo dv dhi dlo n)) := by
  unfold rightB
  congr 2
  rw [Bool.eq_iff_iff]
  simp only [beq_iff_eq, decide_eq_true_eq]
  obtain ⟨a1, a2, a3, a4, a5, a6, a7, a8, a9, a10, a11, a12, a13, a14⟩ := h
  exact ⟨fun h => ⟨a1, a2, a3, a4, a5, a6, a7, a8, a9, a10, a11, a12, a13, a14, h1, by omega⟩, fun h => by omega⟩
set_option maxRecDepth 20000 in
set_option maxHeartbeats 8000000 in
theorem lawRight_any (tos id : Int) (df mf : Bool) (frag ttl proto : Int) (sv : Bool) (shi slo : Int) (dv : Bool) (dhi dlo : Int) (A : Option Addr) (n c : Nat) (w : World) (hn : n ≤ maxLen) :
    Calls Try.prog 50 #[hdV tos id df mf frag ttl proto sv shi slo dv dhi dlo A n c] w fun e w' => e = .returned (.bool (rightB tos id frag ttl proto sv shi slo dv dhi dlo n)) ∧ Below w.heap.size w w' := by
  unfold maxLen at hn
  unfold hdV
  go_enter Try.func50, Try.ntmps50
  go_wp2_with fail
  all_goals (try (go_ret; refine ⟨rightB_no ?_, (Below.refl _ _).alloc (Nat.le_refl _) _⟩; first | (intro hh; omega) | (intro hh; simp_all)))
  have hs : sv = false := by simpa using ‹¬ sv = true›
  have hd : dv = false := by simpa using ‹¬ dv = true›
  subst hs hd
  rcases ha1 : okA false shi slo with _ | _
  · refine (addr_right false shi slo false _ ha1).mono ?_
    rintro e w1 ⟨rfl, hb1⟩
    replace ha1 := hide ha1
    go_wp2_with fail
    go_ret
    refine ⟨rightB_no ?_, ((Below.refl _ _).alloc (Nat.le_refl _) _).trans (hb1.mono (by simp))⟩
    intro hh
    have := ha1.out
    simp_all
  refine (addr_right false shi slo true _ ha1).mono ?_
  rintro e w1 ⟨rfl, hb1⟩
  have hz1 := hb1.size
  simp only [World.size_alloc] at hz1
  have hg1 := blk_below hb1 (by simp) (blk_new _ _ _)
  have hcg := blk_cell hg1
  replace hg1 := hide hg1
  replace hb1 := hide hb1
  replace ha1 := hide ha1
  go_wp2_with fail
  rcases ha2 : okA false dhi dlo with _ | _
  · refine (addr_right false dhi dlo false _ ha2).mono ?_
    rintro e w2 ⟨rfl, hb2⟩
    replace ha2 := hide ha2
    go_wp2_with fail
    go_ret
    refine ⟨rightB_no ?_, ((Below.refl _ _).alloc (Nat.le_refl _) _).trans ((hb1.out.mono (by simp)).trans (hb2.mono (by omega)))⟩
    intro hh
    have := ha2.out
    simp_all
  refine (addr_right false dhi dlo true _ ha2).mono ?_
  rintro e w2 ⟨rfl, hb2⟩
  have hg2 := blk_below hb2 (by omega) hg1.out
  have hcg2 := blk_cell hg2
  clear hcg
  replace hg2 := hide hg2
  replace ha2 := hide ha2
  have hbb := ((Below.refl w.heap.size w).alloc (Nat.le_refl _) (hdC tos id df mf frag ttl proto false shi slo false dhi dlo A n c)).trans ((hb1.out.mono (by simp)).trans (hb2.mono (by omega)))
  replace hbb := hide hbb
  by_cases h40 : n ≤ 40
  · have h40' : (n : Int) ≤ 40 := by omega
    go_wp2_with fail
    go_ret
    refine ⟨?_, hbb.out⟩
    exact rightB_yes ⟨by omega, by omega, by omega, by omega, by omega, by omega, by omega, by omega, by omega, by omega, rfl, rfl, ha1.out, ha2.out⟩ h40
  · have h40' : ¬ (n : Int) ≤ 40 := by omega
    go_wp2_with fail
    go_ret
    refine ⟨rightB_no ?_, hbb.out⟩
    intro hh
    omega
set_option maxRecDepth 20000 in
set_option maxHeartbeats 8000000 in
theorem right_any (tos id : Int) (df mf : Bool) (frag ttl proto : Int) (sv : Bool) (shi slo : Int) (dv : Bool) (dhi dlo : Int) (A : Option Addr) (n c : Nat) (w : World) (hn : n ≤ maxLen) :
    Calls Try.prog 60 #[hdV tos id df mf frag ttl proto sv shi slo dv dhi dlo A n c] w fun e w' => e = .returned (.bool (rightB tos id frag ttl proto sv shi slo dv dhi dlo n)) ∧ Below w.heap.size w w' := by
  unfold maxLen at hn
  have i0 : ∀ w : World, (Instr.index 139 (.agg #[.int .i64 tos, .int .i64 ttl, .int .i64 proto]) (.int .i64 0)).run Try.prog w = .ok (.int .i64 tos) w := fun _ => by kernel_rfl
  have i1 : ∀ w : World, (Instr.index 139 (.agg #[.int .i64 tos, .int .i64 ttl, .int .i64 proto]) (.int .i64 1)).run Try.prog w = .ok (.int .i64 ttl) w := fun _ => by kernel_rfl
  have i2 : ∀ w : World, (Instr.index 139 (.agg #[.int .i64 tos, .int .i64 ttl, .int .i64 proto]) (.int .i64 2)).run Try.prog w = .ok (.int .i64 proto) w := fun _ => by kernel_rfl
  unfold hdV
  go_enter Try.func60, Try.ntmps60
  go_wp2_with fail
  refine wp_loop_rounds 4 ?_
  iterate 4 (all_goals (try (rw [rounds_succ]; go_wp2_with fail)))
  all_goals (try (go_ret; refine ⟨rightB_no ?_, (Below.refl _ _).alloc (Nat.le_refl _) _⟩; first | (intro hh; omega) | (intro hh; simp_all)))
  have hs : sv = false := by simpa using ‹¬ sv = true›
  have hd : dv = false := by simpa using ‹¬ dv = true›
  subst hs hd
  rcases ha1 : okA false shi slo with _ | _
  · refine (addr_right false shi slo false _ ha1).mono ?_
    rintro e w1 ⟨rfl, hb1⟩
    replace ha1 := hide ha1
    go_wp2_with fail
    go_ret
    refine ⟨rightB_no ?_, ((Below.refl _ _).alloc (Nat.le_refl _) _).trans (hb1.mono (by simp))⟩
    intro hh
    have := ha1.out
    simp_all
  refine (addr_right false shi slo true _ ha1).mono ?_
  rintro e w1 ⟨rfl, hb1⟩
  have hz1 := hb1.size
  simp only [World.size_alloc] at hz1
  have hg1 := blk_below hb1 (by simp) (blk_new _ _ _)
  have hcg := blk_cell hg1
  replace hg1 := hide hg1
  replace hb1 := hide hb1
  replace ha1 := hide ha1
  go_wp2_with fail
  rcases ha2 : okA false dhi dlo with _ | _
  · refine (addr_right false dhi dlo false _ ha2).mono ?_
    rintro e w2 ⟨rfl, hb2⟩
    replace ha2 := hide ha2
    go_wp2_with fail
    go_ret
    refine ⟨rightB_no ?_, ((Below.refl _ _).alloc (Nat.le_refl _) _).trans ((hb1.out.mono (by simp)).trans (hb2.mono (by omega)))⟩
    intro hh
    have := ha2.out
    simp_all
  refine (addr_right false dhi dlo true _ ha2).mono ?_
  rintro e w2 ⟨rfl, hb2⟩
  have hg2 := blk_below hb2 (by omega) hg1.out
  have hcg2 := blk_cell hg2
  clear hcg
  replace hg2 := hide hg2
  replace ha2 := hide ha2
  have hbb := ((Below.refl w.heap.size w).alloc (Nat.le_refl _) (hdC tos id df mf frag ttl proto false shi slo false dhi dlo A n c)).trans ((hb1.out.mono (by simp)).trans (hb2.mono (by omega)))
  replace hbb := hide hbb
  by_cases h40 : n ≤ 40
  · have h40' : (n : Int) ≤ 40 := by omega
    go_wp2_with fail
    go_ret
    refine ⟨?_, hbb.out⟩
    exact rightB_yes ⟨by omega, by omega, by omega, by omega, by omega, by omega, by omega, by omega, by omega, by omega, rfl, rfl, ha1.out, ha2.out⟩ h40
  · have h40' : ¬ (n : Int) ≤ 40 := by omega
    go_wp2_with fail
    go_ret
    refine ⟨rightB_no ?_, hbb.out⟩
    intro hh
    omega
end Four
end Go.Proofs.Ytniieckjooahfaa
