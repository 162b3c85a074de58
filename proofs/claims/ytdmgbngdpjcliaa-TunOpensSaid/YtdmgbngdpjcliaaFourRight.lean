/- Which headers may be: the code's and the law's answers, where they may. -/
import Derived.Test.YtdmgbngdpjcliaaFourHead
import Derived.Test.YtdmgbngdpjcliaaBits
import Derived.Handy
namespace Go.Proofs.Ytdmgbngdpjcliaa
open Go.RowKit Go.ChangeShapes Go.WideShapes Go.ChangeAt Go.Deep
namespace Four
set_option maxRecDepth 20000 in
set_option maxHeartbeats 2000000 in
theorem right_yes (tos id : Int) (df mf : Bool) (frag ttl proto slo dlo : Int) (A : Option Addr) (n c : Nat) (w : World) (g1 : 0 ≤ tos) (h1 : tos ≤ 255) (g2 : 0 ≤ id) (h2 : id ≤ 65535) (g3 : 0 ≤ frag) (h3 : frag ≤ 8191) (g4 : 0 ≤ ttl) (h4 : ttl ≤ 255) (g5 : 0 ≤ proto) (h5 : proto ≤ 255) (h6 : slo < 4294967296) (h7 : dlo < 4294967296) (h8 : n ≤ 40) (h9 : n % 4 = 0) :
    Calls Try.prog 80 #[hdV tos id df mf frag ttl proto false 0 slo false 0 dlo A n c] w fun e w' => e = .returned (.bool true) ∧ Below w.heap.size w w' := by
  have a1 : okA false 0 slo = true := by simp [okA]; omega
  have a2 : okA false 0 dlo = true := by simp [okA]; omega
  have h10 : ((n : Int) % 4 == 0) = true := by simp; omega
  replace a1 := hide a1
  replace a2 := hide a2
  have i0 : ∀ w : World, (Instr.index 126 (.agg #[.int .i64 tos, .int .i64 ttl, .int .i64 proto]) (.int .i64 0)).run Try.prog w = .ok (.int .i64 tos) w := fun _ => by kernel_rfl
  have i1 : ∀ w : World, (Instr.index 126 (.agg #[.int .i64 tos, .int .i64 ttl, .int .i64 proto]) (.int .i64 1)).run Try.prog w = .ok (.int .i64 ttl) w := fun _ => by kernel_rfl
  have i2 : ∀ w : World, (Instr.index 126 (.agg #[.int .i64 tos, .int .i64 ttl, .int .i64 proto]) (.int .i64 2)).run Try.prog w = .ok (.int .i64 proto) w := fun _ => by kernel_rfl
  unfold hdV
  go_enter Try.func80, Try.ntmps80
  go_wp2_with fail
  refine wp_loop_rounds 4 ?_
  iterate 4 (rw [rounds_succ]; go_wp2_with fail)
  refine (addr_right false 0 slo true _ a1.out).mono ?_
  rintro e w1 ⟨rfl, hb1⟩
  have hz1 := hb1.size
  simp only [World.size_alloc] at hz1
  have hg1 := blk_below hb1 (by simp) (blk_new _ _ _)
  have hcg := blk_cell hg1
  replace hg1 := hide hg1
  replace hb1 := hide hb1
  go_wp2_with fail
  refine (addr_right false 0 dlo true _ a2.out).mono ?_
  rintro e w2 ⟨rfl, hb2⟩
  have hg2 := blk_below hb2 (by omega) hg1.out
  have hcg2 := blk_cell hg2
  clear hcg
  replace hg2 := hide hg2
  go_wp2_with fail
  go_ret
  exact ⟨by simp, ((Below.refl _ _).alloc (Nat.le_refl _) _).trans ((hb1.out.mono (by simp)).trans (hb2.mono (by omega)))⟩
end Four
end Go.Proofs.Ytdmgbngdpjcliaa
