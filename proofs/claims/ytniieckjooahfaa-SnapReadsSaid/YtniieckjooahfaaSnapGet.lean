/- snap.get: the next op of a reader, by contract. Condition: a reader whose bytes lie below it. -/
import Derived.Test.YtniieckjooahfaaReader
import Derived.Test.YtniieckjooahfaaSnapOps
import Derived.Test.YtniieckjooahfaaOwn
import Derived.Deep.DeepCutAuto
namespace Go.Proofs.Ytniieckjooahfaa
open Go.RowKit Go.ChangeShapes Go.WideShapes Go.ChangeAt Go.Deep
namespace Snap
set_option maxRecDepth 20000 in
set_option maxHeartbeats 8000000 in
theorem get_any (g B : Nat) (s : St) (w : World) (h : Rd w g B s) (hB : B ≤ g) :
    Calls Try.prog 88 #[.pointer (some ⟨g, 0, none⟩)] w fun x w' => ∃ A c, x = .returned (OpD.v ⟨getO s, A, c⟩) ∧ OwnB w' w.heap.size (.slice A (getO s).xs.length c) (getO s).xs ∧ Rd w' g B (getS s) ∧ w.grownBy w' (some g) := by
  obtain ⟨wz, hwz⟩ : ∃ wz, (w.alloc (.cells #[.int .i64 0, .slice none 0 0, .string ⟨#[]⟩, .int .i64 0, .int .i64 0, .bool false] 77)).alloc (.cells #[.int .i64 0, .slice none 0 0, .string ⟨#[]⟩, .int .i64 0, .int .i64 0, .bool false] 77) = wz := ⟨_, rfl⟩
  have hlt := h.lt
  have hbz : Below w.heap.size w wz := hwz ▸ ((Below.refl _ _).alloc (Nat.le_refl _) _).alloc (by simp) _
  have hr0 : wz.heap[w.heap.size]? = some (.cells #[.int .i64 0, .slice none 0 0, .string ⟨#[]⟩, .int .i64 0, .int .i64 0, .bool false] 77 (0, 0)) := hwz ▸ blk_old _ (by simp) (blk_new _ _ _)
  have ho0 : wz.heap[w.heap.size + 1]? = some (.cells #[.int .i64 0, .slice none 0 0, .string ⟨#[]⟩, .int .i64 0, .int .i64 0, .bool false] 77 (0, 0)) := hwz ▸ (by simpa using blk_new (w.alloc (.cells #[.int .i64 0, .slice none 0 0, .string ⟨#[]⟩, .int .i64 0, .int .i64 0, .bool false] 77)) 77 #[.int .i64 0, .slice none 0 0, .string ⟨#[]⟩, .int .i64 0, .int .i64 0, .bool false])
  have hz : wz.heap.size = w.heap.size + 2 := by rw [← hwz]; simp
  have hrd := h.later hB (hbz.mono (by omega))
  replace h := hide h
  replace hbz := hide hbz
  replace hr0 := hide hr0
  replace ho0 := hide ho0
  replace hrd := hide hrd
  go_enter Try.func88, Try.ntmps88
  go_wp2_with fail
  refine (num_lit 1 g B 1 rfl s _ hrd.out hB (by omega)).mono ?_
  rintro e w1 ⟨rfl, hr1, g1⟩
  have z1 := g1.size
  have ho1 := grown_other g1 (by omega) (by omega) ho0.out
  have hr01 := grown_other g1 (by omega) (by omega) hr0.out
  have hB1 := (grownBy_of (g := g) hbz.out).trans g1
  obtain ⟨s1, hs1⟩ : ∃ x, rawS 1 s = x := ⟨_, rfl⟩
  obtain ⟨v1, hv1⟩ : ∃ x, numV 1 s = x := ⟨_, rfl⟩
  have b1 : v1 < 256 := hv1 ▸ numV_lt 1 s
  rw [hs1] at hr1
  rw [hv1]
  obtain ⟨w2, e2, ho2, g2⟩ := set6at0 ho1 (.int .i64 (v1 : Int))
  have z2 := g2.size
  have hr2 := hr1.other hB g2 (by omega)
  have hr02 := grown_other g2 (by omega) (by omega) hr01
  have hB2 := grownBy_far hB1 g2 (by omega)
  have hcg := blk_cell ho1
  have hfg := blk_free ho1
  clear g1 g2 hr1 hr01 hB1 hrd hr0 ho0 hwz
  replace ho1 := hide ho1
  replace ho2 := hide ho2
  replace hr2 := hide hr2
  replace hr02 := hide hr02
  replace hB2 := hide hB2
  replace hs1 := hide hs1
  replace hv1 := hide hv1
  go_wp2_with fail
  clear hcg hfg e2 ho1
  refine (num_lit 1 g B 1 rfl s1 _ hr2.out hB (by omega)).mono ?_
  rintro e w3 ⟨rfl, hr3, g3⟩
  have z3 := g3.size
  have ho3 := grown_other g3 (by omega) (by omega) ho2.out
  have hr03 := grown_other g3 (by omega) (by omega) hr02.out
  have hB3 := hB2.out.trans g3
  obtain ⟨v2, hv2⟩ : ∃ x, numV 1 s1 = x := ⟨_, rfl⟩
  have b2 : v2 < 256 := hv2 ▸ numV_lt 1 s1
  obtain ⟨s2, hs2⟩ : ∃ x, upS s1 = x := ⟨_, rfl⟩
  rw [hv2]
  clear g3 hr2 hr02 hB2 ho2
  replace hr3 := hide hr3
  replace ho3 := hide ho3
  replace hr03 := hide hr03
  replace hB3 := hide hB3
  replace hv2 := hide hv2
  replace hs2 := hide hs2
  go_upto_if 13 with fail
  go_cut [] (fun wx => ∃ w4, Rd w4 g B s2 ∧ w4.heap[w.heap.size + 1]? = some (.cells #[.int .i64 (v1 : Int), .slice none 0 0, .string ⟨#[]⟩, .int .i64 0, .int .i64 0, .bool false] 77 (0, 0)) ∧ w4.heap[w.heap.size]? = some (.cells #[.int .i64 0, .slice none 0 0, .string ⟨#[]⟩, .int .i64 0, .int .i64 0, .bool false] 77 (0, 0)) ∧ w.grownBy w4 (some g) ∧ w.heap.size + 2 ≤ w4.heap.size ∧ w4 = wx)
  case first =>
    by_cases hu : 1 < v2
    · have hS : failS 4 (rawS 1 s1) = s2 := by rw [← hs2.out]; unfold upS; rw [if_pos (by rw [hv2.out]; exact hu)]
      have t1 : (1 : Int) < (v2 : Int) := by omega
      replace hS := hide hS
      go_wp2_with fail
      refine (fail_any g B 4 _ w3 hr3.out hB).mono ?_
      rintro e w4 ⟨rfl, hr4, g4⟩
      have z4 := g4.size
      rw [hS.out] at hr4
      have ho4 := grown_other g4 (by omega) (by omega) ho3.out
      have hr04 := grown_other g4 (by omega) (by omega) hr03.out
      have hB4 := hB3.out.trans g4
      replace hr4 := hide hr4
      replace ho4 := hide ho4
      replace hr04 := hide hr04
      replace hB4 := hide hB4
      replace g4 := hide g4
      go_wp2_with fail
      go_meet
      exact ⟨w4, hr4.out, ho4.out, hr04.out, hB4.out, by omega, rfl⟩
    · have hS : rawS 1 s1 = s2 := by rw [← hs2.out]; unfold upS; rw [if_neg (by rw [hv2.out]; exact hu)]
      have t1 : ¬ (1 : Int) < (v2 : Int) := by omega
      have hr4 := hr3.out
      rw [hS] at hr4
      replace hS := hide hS
      replace hr4 := hide hr4
      go_wp2_with fail
      go_meet
      exact ⟨w3, hr4.out, ho3.out, hr03.out, hB3.out, by omega, rfl⟩
  case rest =>
  obtain ⟨w4, hr4, ho4, hr04, hB4, z4, rfl⟩ := hcut
  clear hr3 ho3 hr03 hB3
  obtain ⟨up, hup⟩ : ∃ b, ((v2 : Int) == 1) = b := ⟨_, rfl⟩
  obtain ⟨w5, e5, ho5, g5⟩ := set6at5 ho4 (.bool up)
  have z5 := g5.size
  have hr5 := hr4.other hB g5 (by omega)
  have hr05 := grown_other g5 (by omega) (by omega) hr04
  have hB5 := grownBy_far hB4 g5 (by omega)
  have hcg := blk_cell ho4
  have hfg := blk_free ho4
  clear g5 hr4 hr04 hB4
  replace ho4 := hide ho4
  replace ho5 := hide ho5
  replace hr5 := hide hr5
  replace hr05 := hide hr05
  replace hB5 := hide hB5
  go_wp2_with fail
  clear hcg hfg e5 ho4
  refine (num_lit 4 g B 4 rfl s2 _ hr5.out hB (by omega)).mono ?_
  rintro e w6 ⟨rfl, hr6, g6⟩
  have z6 := g6.size
  have ho6 := grown_other g6 (by omega) (by omega) ho5.out
  have hr06 := grown_other g6 (by omega) (by omega) hr05.out
  have hB6 := hB5.out.trans g6
  obtain ⟨s3, hs3⟩ : ∃ x, rawS 4 s2 = x := ⟨_, rfl⟩
  obtain ⟨v3, hv3⟩ : ∃ x, numV 4 s2 = x := ⟨_, rfl⟩
  have b3 : v3 < 4294967296 := hv3 ▸ numV_lt 4 s2
  rw [hs3] at hr6
  rw [hv3]
  clear g6 hr5 hr05 hB5 ho5
  replace hr6 := hide hr6
  replace ho6 := hide ho6
  replace hr06 := hide hr06
  replace hB6 := hide hB6
  replace hs3 := hide hs3
  replace hv3 := hide hv3
  go_wp2_with fail
  refine (num_lit 4 g B 4 rfl s3 _ hr6.out hB (by omega)).mono ?_
  rintro e w7 ⟨rfl, hr7, g7⟩
  have z7 := g7.size
  have ho7 := grown_other g7 (by omega) (by omega) ho6.out
  have hr07 := grown_other g7 (by omega) (by omega) hr06.out
  have hB7 := hB6.out.trans g7
  obtain ⟨s4, hs4⟩ : ∃ x, rawS 4 s3 = x := ⟨_, rfl⟩
  obtain ⟨v4, hv4⟩ : ∃ x, numV 4 s3 = x := ⟨_, rfl⟩
  have b4 : v4 < 4294967296 := hv4 ▸ numV_lt 4 s3
  rw [hs4] at hr7
  rw [hv4]
  clear g7 hr6 hr06 hB6 ho6
  have hcg := blk_cell ho7
  have hfg := blk_free ho7
  obtain ⟨w8, e8, ho8, g8⟩ := set6at3 ho7 (.int .i64 (v3 : Int))
  have z8 := g8.size
  have hcg8 := blk_cell ho8
  have hfg8 := blk_free ho8
  obtain ⟨w9, e9, ho9, g9⟩ := set6at4 ho8 (.int .i64 (v4 : Int))
  have z9 := g9.size
  have hr9 := (hr7.other hB g8 (by omega)).other hB g9 (by omega)
  have hr09 := grown_other g9 (by omega) (by omega) (grown_other g8 (by omega) (by omega) hr07)
  have hB9 := grownBy_far (grownBy_far hB7 g8 (by omega)) g9 (by omega)
  clear g8 g9 hr7 hr07 hB7 
  replace ho7 := hide ho7
  replace ho8 := hide ho8
  replace ho9 := hide ho9
  replace hr9 := hide hr9
  replace hr09 := hide hr09
  replace hB9 := hide hB9
  replace hs4 := hide hs4
  replace hv4 := hide hv4
  go_wp2_with fail
  clear hcg hfg hcg8 hfg8 e8 e9 ho7 ho8
  refine (num_lit 4 g B 4 rfl s4 _ hr9.out hB (by omega)).mono ?_
  rintro e w10 ⟨rfl, hr10, g10⟩
  have z10 := g10.size
  have ho10 := grown_other g10 (by omega) (by omega) ho9.out
  have hr010 := grown_other g10 (by omega) (by omega) hr09.out
  have hB10 := hB9.out.trans g10
  obtain ⟨v5, hv5⟩ : ∃ x, numV 4 s4 = x := ⟨_, rfl⟩
  have b5 : v5 < 4294967296 := hv5 ▸ numV_lt 4 s4
  obtain ⟨s5, hs5⟩ : ∃ x, lenS s4 = x := ⟨_, rfl⟩
  rw [hv5]
  clear g10 hr9 hr09 hB9 ho9
  replace hr10 := hide hr10
  replace ho10 := hide ho10
  replace hr010 := hide hr010
  replace hB10 := hide hB10
  replace hv5 := hide hv5
  replace hs5 := hide hs5
  go_upto_if 31 with fail
  go_cut [] (fun wx => ∃ w4, Rd w4 g B s5 ∧ w4.heap[w.heap.size + 1]? = some (.cells #[.int .i64 (v1 : Int), .slice none 0 0, .string ⟨#[]⟩, .int .i64 (v3 : Int), .int .i64 (v4 : Int), .bool up] 77 (0, 0)) ∧ w4.heap[w.heap.size]? = some (.cells #[.int .i64 0, .slice none 0 0, .string ⟨#[]⟩, .int .i64 0, .int .i64 0, .bool false] 77 (0, 0)) ∧ w.grownBy w4 (some g) ∧ w.heap.size + 2 ≤ w4.heap.size ∧ w4 = wx)
  case first =>
    by_cases hu : 65536 < v5
    · have hS : failS 3 (rawS 4 s4) = s5 := by rw [← hs5.out]; unfold lenS; rw [if_pos (by rw [hv5.out]; exact hu)]
      have t1 : (65536 : Int) < (v5 : Int) := by omega
      replace hS := hide hS
      go_wp2_with fail
      refine (fail_any g B 3 _ w10 hr10.out hB).mono ?_
      rintro e w11 ⟨rfl, hr11, g11⟩
      have z11 := g11.size
      rw [hS.out] at hr11
      have ho11 := grown_other g11 (by omega) (by omega) ho10.out
      have hr011 := grown_other g11 (by omega) (by omega) hr010.out
      have hB11 := hB10.out.trans g11
      replace hr11 := hide hr11
      replace ho11 := hide ho11
      replace hr011 := hide hr011
      replace hB11 := hide hB11
      replace g11 := hide g11
      go_wp2_with fail
      go_meet
      exact ⟨w11, hr11.out, ho11.out, hr011.out, hB11.out, by omega, rfl⟩
    · have hS : rawS 4 s4 = s5 := by rw [← hs5.out]; unfold lenS; rw [if_neg (by rw [hv5.out]; exact hu)]
      have t1 : ¬ (65536 : Int) < (v5 : Int) := by omega
      have hr11 := hr10.out
      rw [hS] at hr11
      replace hS := hide hS
      replace hr11 := hide hr11
      go_wp2_with fail
      go_meet
      exact ⟨w10, hr11.out, ho10.out, hr010.out, hB10.out, by omega, rfl⟩
  case rest =>
  obtain ⟨w11, hr11, ho11, hr011, hB11, z11, rfl⟩ := hcut
  clear hr10 ho10 hr010 hB10
  replace hr11 := hide hr11
  replace ho11 := hide ho11
  replace hr011 := hide hr011
  replace hB11 := hide hB11
  go_wp2_with fail
  refine (raw_any g B v5 s5 _ hr11.out hB (by omega)).mono ?_
  rintro e w12 ⟨A, n, c, rfl, hx12, hnc12, hcm12, hr12, g12⟩
  have z12 := g12.size
  have ho12 := grown_other g12 (by omega) (by omega) ho11.out
  have hr012 := grown_other g12 (by omega) (by omega) hr011.out
  have hB12 := hB11.out.trans g12
  obtain ⟨s6, hs6⟩ : ∃ x, rawS v5 s5 = x := ⟨_, rfl⟩
  obtain ⟨xs, hxs⟩ : ∃ x, rawX v5 s5 = x := ⟨_, rfl⟩
  have hxl : xs.length ≤ v5 := hxs ▸ rawX_len v5 s5
  have hxn := hx12.1
  rw [hs6] at hr12
  rw [hxs] at hx12 hxn
  subst hxn
  clear g12 hr11 ho11 hr011 hB11
  replace hr12 := hide hr12
  replace ho12 := hide ho12
  replace hr012 := hide hr012
  replace hB12 := hide hB12
  replace hs6 := hide hs6
  replace hxs := hide hxs
  replace hx12 := hide hx12
  go_wp2_with (at_builtin; refine wpl_src_bv rfl (.const (.slice none 0 0)) (.tmp 36) rfl w12.heap.size _ [] xs A xs.length c w12.heap.size rfl rfl (OwnB.nil _ _) (hx12.out.more (by omega)) (Nat.le_refl _) ?_ ?_)
  · simp; omega
  intro v13 w13 hown13 hg13
  have hb13 := hg13.belowNil
  have z13 := hb13.size
  have hr13 := hr12.out.later hB (hb13.mono (by have := hr12.out.lt; omega))
  have ho13 := blk_below hb13 (by omega) ho12.out
  have hr013 := blk_below hb13 (by omega) hr012.out
  have hB13 := hB12.out.trans (grownBy_of (g := g) hb13)
  obtain ⟨A5, c5, rfl, hc5, hm5, hi5⟩ := hown13.form
  clear hg13 hb13 hr12 ho12 hr012 hB12 hi5 hx12
  obtain ⟨w14, e14, ho14, g14⟩ := set6at1 ho13 (.slice A5 xs.length c5)
  have z14 := g14.size
  have hr14 := hr13.other hB g14 (by omega)
  have hr014 := grown_other g14 (by omega) (by omega) hr013
  have hB14 := grownBy_far hB13 g14 (by omega)
  have hown14 := hown13.away g14 (by omega)
  have hcg := blk_cell ho13
  have hfg := blk_free ho13
  clear g14 hr13 hr013 hB13 hown13
  replace ho13 := hide ho13
  replace ho14 := hide ho14
  replace hr14 := hide hr14
  replace hr014 := hide hr014
  replace hB14 := hide hB14
  replace hown14 := hide hown14
  go_wp2_with fail
  clear hcg hfg e14 ho13
  refine (num_lit 1 g B 1 rfl s6 _ hr14.out hB (by omega)).mono ?_
  rintro e w15 ⟨rfl, hr15, g15⟩
  have z15 := g15.size
  have ho15 := grown_other g15 (by omega) (by omega) ho14.out
  have hr015 := grown_other g15 (by omega) (by omega) hr014.out
  have hB15 := hB14.out.trans g15
  have hown15 := hown14.out.away g15 (by omega)
  obtain ⟨s7, hs7⟩ : ∃ x, rawS 1 s6 = x := ⟨_, rfl⟩
  obtain ⟨v7, hv7⟩ : ∃ x, numV 1 s6 = x := ⟨_, rfl⟩
  have b7 : v7 < 256 := hv7 ▸ numV_lt 1 s6
  rw [hs7] at hr15
  rw [hv7]
  clear g15 hr14 hr014 hB14 ho14 hown14
  replace hr15 := hide hr15
  replace ho15 := hide ho15
  replace hr015 := hide hr015
  replace hB15 := hide hB15
  replace hs7 := hide hs7
  replace hv7 := hide hv7
  replace hown15 := hide hown15
  go_wp2_with fail
  refine (raw_any g B v7 s7 _ hr15.out hB (by omega)).mono ?_
  rintro e w16 ⟨A6, n6, c6, rfl, hx16, hnc16, hcm16, hr16, g16⟩
  have z16 := g16.size
  have ho16 := grown_other g16 (by omega) (by omega) ho15.out
  have hr016 := grown_other g16 (by omega) (by omega) hr015.out
  have hB16 := hB15.out.trans g16
  have hown16 := hown15.out.away g16 (by omega)
  obtain ⟨ys, hys⟩ : ∃ x, rawX v7 s7 = x := ⟨_, rfl⟩
  rw [hys] at hx16
  have hst := hx16.str c6
  obtain ⟨w17, e17, ho17, g17⟩ := set6at2 ho16 (.string (str ys))
  have z17 := g17.size
  have hr17 := hr16.other hB g17 (by omega)
  have hr017 := grown_other g17 (by omega) (by omega) hr016
  have hB17 := grownBy_far hB16 g17 (by omega)
  have hown17 := hown16.away g17 (by omega)
  have hcg := blk_cell ho16
  have hfg := blk_free ho16
  have hcg17 := blk_cell ho17
  have hfr17 := blk_free hr017
  have hcr17 := blk_cell hr017
  obtain ⟨w18, e18, hr018, g18⟩ := set6all hr017 (.int .i64 (v1 : Int)) (.slice A5 xs.length c5) (.string (str ys)) (.int .i64 (v3 : Int)) (.int .i64 (v4 : Int)) (.bool up)
  have hr18 := hr17.other hB g18 (by omega)
  have hB18 := grownBy_far hB17 g18 (by omega)
  have hown18 := hown17.away g18 (by omega)
  have hcr := blk_cell hr018
  clear g16 g17 g18 hr15 hr015 hB15 ho15 hown15 hr16 hr016 hB16 hown16 hr17 hB17 hown17 hx16
  replace ho16 := hide ho16
  replace ho17 := hide ho17
  replace hr017 := hide hr017
  replace hr018 := hide hr018
  replace hr18 := hide hr18
  replace hB18 := hide hB18
  replace hown18 := hide hown18
  replace hys := hide hys
  go_wp2_with fail
  have hud : decide (numV 1 s1 = 1) = up := by rw [hv2.out, ← hup]; exact (beq_nat v2 1).symm
  have hO : getO s = ⟨(v1 : Int), xs, ys, (v3 : Int), (v4 : Int), up⟩ := by
    unfold getO
    simp only [hs1.out, hv1.out, hs2.out, hud, hs3.out, hv3.out, hs4.out, hv4.out, hv5.out, hs5.out, hxs.out, hs6.out, hs7.out, hv7.out, hys.out]
  have hS : getS s = rawS v7 s7 := by
    unfold getS
    simp only [hs1.out, hs2.out, hs3.out, hs4.out, hv5.out, hs5.out, hs6.out, hs7.out, hv7.out]
  rw [hO, hS]
  exact bodyPost_ret (v := OpD.v ⟨⟨(v1 : Int), xs, ys, (v3 : Int), (v4 : Int), up⟩, A5, c5⟩) (by simp [results, Try.results88, go_sem, hcr, OpD.v]) rfl ⟨A5, c5, rfl, hown18.out.weaken (by omega), hr18.out, hB18.out⟩
end Snap
end Go.Proofs.Ytniieckjooahfaa
