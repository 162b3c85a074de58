/- The pseudo header by contract. Conditions: numbers of 64 bits. -/
import Derived.Test.YtniieckjooahfaaFourHead
import Derived.Test.YtniieckjooahfaaAllLit
namespace Go.Proofs.Ytniieckjooahfaa
open Go.RowKit Go.ChangeShapes Go.WideShapes Go.ChangeAt Go.Deep
namespace Four
set_option maxRecDepth 20000 in
set_option maxHeartbeats 2000000 in
theorem pseudo_any (sv : Bool) (shi slo : Nat) (dv : Bool) (dhi dlo : Nat) (proto size : Int) (p1 s1 : Nat) (hp1 : proto % 256 = (p1 : Int)) (hs1 : IntKind.u64.wrap size = (s1 : Int)) (w : World) (h1 : slo < 18446744073709551616) (h2 : dlo < 18446744073709551616) (hs2 : s1 < 18446744073709551616) :
    Calls Try.prog 58 #[.agg #[.bool sv, .int .u64 shi, .int .u64 slo], .agg #[.bool dv, .int .u64 dhi, .int .u64 dlo], .int .i64 proto, .int .i64 size] w fun e w' => ∃ v, e = .returned v ∧ OwnB w' w.heap.size v (((beB slo 4 ++ beB dlo 4) ++ [0, UInt8.ofNat p1]) ++ beB s1 2) ∧ Below w.heap.size w w' := by
  obtain ⟨w1, hw1'⟩ : ∃ w1, (w.alloc (.cells #[.bool sv, .int .u64 shi, .int .u64 slo] 24)).alloc (.cells #[.bool dv, .int .u64 dhi, .int .u64 dlo] 24) = w1 := ⟨_, rfl⟩
  have hb1 : Below w.heap.size w w1 := hw1' ▸ ((Below.refl _ _).alloc (Nat.le_refl _) _).alloc (by simp) _
  have hz1 : w1.heap.size = w.heap.size + 1 + 1 := by rw [← hw1']; simp
  have hcs : ∀ i, w1.cell? ⟨w.heap.size, i, none⟩ = _ := fun i => blk_cell (by rw [← hw1']; exact blk_old _ (by simp) (blk_new w 24 #[.bool sv, .int .u64 shi, .int .u64 slo])) i
  have hcd : ∀ i, w1.cell? ⟨w.heap.size + 1, i, none⟩ = _ := fun i => blk_cell (by rw [← hw1']; simpa using blk_new (w.alloc (.cells #[.bool sv, .int .u64 shi, .int .u64 slo] 24)) 24 #[.bool dv, .int .u64 dhi, .int .u64 dlo]) i
  have hp2 : IntKind.u8.wrap proto = (p1 : Int) := by rw [IntKind.wrap_u8]; exact hp1
  have hp3 : p1 ≤ 255 := by omega
  have hN : ∀ N ∈ [slo, dlo], N < 18446744073709551616 := by
    intro N hN
    simp only [List.mem_cons, List.not_mem_nil, or_false] at hN
    rcases hN with rfl | rfl
    · exact h1
    · exact h2
  replace hN := hide hN
  replace hs2 := hide hs2
  clear h1 h2
  replace hp1 := hide hp1
  replace hb1 := hide hb1
  replace hz1 := hide hz1
  go_enter Try.func58, Try.ntmps58
  go_wp2_with fail
  refine (all_lit w1.heap.size _ [] 4 _ rfl [slo, dlo] _ rfl 2 _ rfl _ w1 _ rfl (OwnB.nil _ _) (Nat.le_refl _) (by omega) (by simp) (by omega) hN.out).mono ?_
  rintro e w2 ⟨v2, rfl, hown2, hg2⟩
  have hb2 := hg2.belowNil
  have hz2 := hb2.size
  have hv3 : [Value.int .u8 0, .int .u8 (p1 : Int)] = ([0, UInt8.ofNat p1] : List UInt8).map u8v := by
    simp only [List.map_cons, List.map_nil]
    rw [u8v_nat _ hp3]
    rfl
  clear hw1' hg2 hcs hcd
  replace hown2 := hide hown2
  replace hb2 := hide hb2
  replace hv3 := hide hv3
  go_wp2_with (at_builtin; refine wpl_lit_bv rfl (.tmp 16) (.tmp 19) rfl w1.heap.size _ _ [0, UInt8.ofNat p1] _ _ rfl rfl ?_ ?_ hown2.out ?_ ?_ ?_)
  · exact hv3.out
  · rfl
  · exact hz2
  · simp [beB_length, allB_length]
  intro v3 w3 hown3 hg3
  have hb3 := hb2.out.trans (hg3.below hown2.out hz2)
  clear hg3
  replace hown3 := hide hown3
  replace hb3 := hide hb3
  go_wp2_with fail
  refine (put_lit _ _ s1 2 rfl rfl w1.heap.size _ _ _ hown3.out hb3.out.size hs2.out (by omega) (by simp [beB_length, allB_length])).mono ?_
  rintro e w4 ⟨v4, rfl, hown4, hg4⟩
  have hb4 := hb1.out.trans ((hb3.out.trans (hg4.below hown3.out hb3.out.size)).mono (by have := hz1.out; omega))
  clear hg4
  replace hown4 := hide hown4
  replace hb4 := hide hb4
  go_wp2_with fail
  go_ret
  refine ⟨_, rfl, ?_, hb4.out⟩
  have h4 := hown4.out.weaken (base' := w.heap.size) (by have := hz1.out; omega)
  simpa [allB] using h4
end Four
end Go.Proofs.Ytniieckjooahfaa
