/- The statement IcmpQuotes, walked: which flow any message quotes, or why none. Conditions: slices of bytes that read as lists. -/
import Derived.Test.YtniieckjooahfaaIcmpQuotesA1
import Derived.Test.YtniieckjooahfaaIcmpQuotesA2
import Derived.Test.YtniieckjooahfaaIcmpQuotesA3
import Derived.Test.YtniieckjooahfaaIcmpQuotesA4
import Derived.Test.YtniieckjooahfaaIcmpQuotesB
namespace Go.Proofs.Ytniieckjooahfaa
open Go.RowKit Go.ChangeShapes Go.WideShapes Go.ChangeAt Go.Deep
namespace Icmp
set_option maxRecDepth 20000 in
set_option maxHeartbeats 8000000 in
theorem quotes_walk (v6 : Bool) (ty cd wd : Int) (A : Option Addr) (n0 c : Nat) (xs0 : List UInt8) (w : World) (_hw1 : (Lit.int .i64 ty).wf = true) (_hw2 : (Lit.int .i64 cd).wf = true) (_hw3 : (Lit.int .u32 wd).wf = true) (hx0 : IsB w w.heap.size A n0 xs0) (hnc : n0 ≤ c) (hcm : c ≤ maxLen) :
    Calls Try.prog 12 #[.bool v6, .agg #[.int .i64 ty, .int .i64 cd, .int .u32 wd, .slice A n0 c]] w fun e w' => e = .returned (.bool true) ∧ Below w.heap.size w w' := by
  obtain ⟨n, hn⟩ : ∃ n, min n0 300 = n := ⟨_, rfl⟩
  obtain ⟨xs, hxs⟩ : ∃ xs, xs0.take n = xs := ⟨_, rfl⟩
  have hx : IsB w w.heap.size A n xs := hxs ▸ hx0.take (m := n) (by omega)
  have hn3 : n ≤ 300 := by omega
  have hnc1 : n ≤ c := by omega
  have hn0 : n0 ≤ maxLen := by omega
  have hxl := hx.1
  obtain ⟨K, proto, shi, slo, dhi, dlo, frag, rest, hQ⟩ := qIs_some v6 n xs
  obtain ⟨rest, hQ, hrl⟩ : ∃ rest, QIs v6 n xs K proto shi slo dhi dlo frag rest ∧ rest.length ≤ 300 := by
    by_cases hK : K = 0
    · subst hK
      exact ⟨rest, hQ, Nat.le_trans (qIs_len hQ hxl) hn3⟩
    · refine ⟨[], ?_, by simp⟩
      unfold QIs at hQ ⊢
      rcases v6 with _ | _
      · rw [if_neg (by simp)] at hQ ⊢
        exact ⟨hQ.1, fun h => absurd h hK⟩
      · rw [if_pos rfl] at hQ ⊢
        exact ⟨hQ.1, fun h => absurd h hK⟩
  obtain ⟨E, hE⟩ : ∃ E, errB v6 ty = E := ⟨_, rfl⟩
  obtain ⟨G, hG⟩ : ∃ G, (if E = false then 24 else if K ≠ 0 then K else flowK frag proto rest.length) = G := ⟨_, rfl⟩
  replace hG := hide hG
  obtain ⟨w1, hw1⟩ : ∃ w1, w.alloc (.cells #[.int .i64 ty, .int .i64 cd, .int .u32 wd, .slice A n c] 39) = w1 := ⟨_, rfl⟩
  have hb1 : Below w.heap.size w w1 := hw1 ▸ (Below.refl _ _).alloc (Nat.le_refl _) _
  have hg1 := hw1 ▸ blk_new w 39 #[.int .i64 ty, .int .i64 cd, .int .u32 wd, .slice A n c]
  have hlt1 : w.heap.size < w1.heap.size := by rw [← hw1]; simp
  have hx1 := hx.on hb1
  have hcg1 := blk_cell hg1
  replace hx := hide hx
  replace hx1 := hide hx1
  replace hn := hide hn
  replace hQ := hide hQ
  replace hE := hide hE
  replace hxl := hide hxl
  replace hg1 := hide hg1
  replace hb1 := hide hb1
  clear hx0 hxs
  go_enter Try.func12, Try.ntmps12
  go_wp2_with fail
  refine (cut_as A n0 c n _ hn0 hnc hn.out).mono ?_
  rintro e w' ⟨rfl, rfl⟩
  go_wp2_with fail
  refine (quoted_all v6 ty cd wd A n c xs _ hx1.out hnc1 hcm (by omega) E hE.out K proto shi slo dhi dlo frag rest hQ.out (by unfold maxLen; omega) G hG.out).mono ?_
  rintro e w2 ⟨tp, tv, thi, tlo, uv, uhi, ulo, sp, dp, rfl, ht0, ht1, hb2⟩
  clear hw1 hcg1
  obtain ⟨w3, hw3⟩ : ∃ w3, w2.alloc (tuC tp tv thi tlo uv uhi ulo sp dp) = w3 := ⟨_, rfl⟩
  have hb23 : Below w2.heap.size w2 w3 := hw3 ▸ (Below.refl _ _).alloc (Nat.le_refl _) _
  have hlt3 : w2.heap.size < w3.heap.size := by rw [← hw3]; simp
  unfold tuC at hw3
  have hgt := hw3 ▸ blk_new w2 26 #[.int .i64 tp, .bool tv, .int .u64 thi, .int .u64 tlo, .bool uv, .int .u64 uhi, .int .u64 ulo, .int .i64 sp, .int .i64 dp]
  have hb13 := hb2.trans (hb23.mono hb2.size)
  have hgm3 := blk_below hb13 hlt1 hg1.out
  have hcm3 := blk_cell hgm3
  have hx3 := hx1.out.on hb13
  have hB3 := hb1.out.trans (hb13.mono (Nat.le_of_lt hlt1))
  have hltm : w.heap.size < w3.heap.size := Nat.lt_of_lt_of_le hlt1 hb13.size
  have hzt : w.heap.size < w2.heap.size := Nat.lt_of_lt_of_le hlt1 hb2.size
  clear hb2 hb23 hb13
  replace hgt := hide hgt
  replace hgm3 := hide hgm3
  replace hx3 := hide hx3
  replace hB3 := hide hB3
  replace ht0 := hide ht0
  replace ht1 := hide ht1
  go_upto_region 4 with fail
  clear hw3
  go_cut [8] (fun s8 wx => s8 = .bool E ∧ w3 = wx)
  case first =>
    have hE' := hE.out
    rw [tells_eq] at hE'
    rcases v6 with _ | _
    · simp only [Bool.not_false, Bool.true_and, Bool.false_and, Bool.or_false] at hE'
      by_cases h3 : ty = 3
      · subst h3
        obtain rfl : E = true := by rw [← hE']; rfl
        clear hE'
        go_wp2_with fail
        go_meet
        exact ⟨rfl, rfl⟩
      by_cases h4 : ty = 4
      · subst h4
        obtain rfl : E = true := by rw [← hE']; rfl
        clear hE'
        go_wp2_with fail
        go_meet
        exact ⟨rfl, rfl⟩
      by_cases h5 : ty = 5
      · subst h5
        obtain rfl : E = true := by rw [← hE']; rfl
        clear hE'
        go_wp2_with fail
        go_meet
        exact ⟨rfl, rfl⟩
      by_cases h11 : ty = 11
      · subst h11
        obtain rfl : E = true := by rw [← hE']; rfl
        clear hE'
        go_wp2_with fail
        go_meet
        exact ⟨rfl, rfl⟩
      have t3 : (ty == 3) = false := by simp [h3]
      have t4 : (ty == 4) = false := by simp [h4]
      have t5 : (ty == 5) = false := by simp [h5]
      have t11 : (ty == 11) = false := by simp [h11]
      rw [t3, t4, t5, t11] at hE'
      simp only [Bool.false_or] at hE'
      have hE2 := hide hE'
      clear hE' h3 h4 h5 h11
      rcases h12 : (ty == 12) with _ | _
      · have e := hE2.out
        rw [h12] at e
        subst e
        go_wp2_with fail
        go_meet
        exact ⟨rfl, rfl⟩
      · have e := hE2.out
        rw [h12] at e
        subst e
        go_wp2_with fail
        go_meet
        exact ⟨rfl, rfl⟩
    · simp only [Bool.not_true, Bool.true_and, Bool.false_and, Bool.false_or] at hE'
      by_cases h1 : 1 ≤ ty
      · by_cases h4 : ty ≤ 4
        · obtain rfl : E = true := by rw [← hE']; simp [h1, h4]
          clear hE'
          go_wp2_with fail
          go_meet
          exact ⟨by simp [h1, h4], rfl⟩
        · obtain rfl : E = false := by rw [← hE']; simp [h4]
          clear hE'
          go_wp2_with fail
          go_meet
          exact ⟨by simp [h1, h4], rfl⟩
      · obtain rfl : E = false := by rw [← hE']; simp [h1]
        clear hE'
        go_wp2_with fail
        go_meet
        exact ⟨by simp [h1], rfl⟩
  case rest =>
  obtain ⟨rfl, rfl⟩ := hcut
  have hct3 := blk_cell hgt.out
  go_wp2_with fail
  refine (error_any v6 ty _).mono ?_
  rw [hE.out]
  rintro e w' ⟨rfl, rfl⟩
  rcases E with _ | _
  · have hG' := hG.out
    rw [if_pos rfl] at hG'
    have h0 := ht0.out (by omega)
    simp only [Value.agg.injEq, Array.mk.injEq, List.cons.injEq, Value.int.injEq, Value.bool.injEq, true_and, and_true] at h0
    obtain ⟨rfl, rfl, rfl, rfl, rfl, rfl, rfl, rfl, rfl⟩ := h0
    subst hG'
    go_wp2_with fail
    refine (awake_any _).mono ?_
    rintro e w4 ⟨rfl, hb4⟩
    clear hct3 hcm3
    replace hb4 := hide hb4
    go_wp2_with fail
    go_ret
    exact ⟨rfl, hB3.out.trans (hb4.out.mono hB3.out.size)⟩
  go_upto_if 82 with fail
  obtain ⟨w4, hw4⟩ : ∃ w4, w3.alloc (tuC 0 false 0 0 false 0 0 0 0) = w4 := ⟨_, rfl⟩
  have hb34 : Below w3.heap.size w3 w4 := hw4 ▸ (Below.refl _ _).alloc (Nat.le_refl _) _
  have hlt4 : w3.heap.size < w4.heap.size := by rw [← hw4]; simp
  unfold tuC at hw4
  have hg9 := hw4 ▸ blk_new w3 26 #[.int .i64 0, .bool false, .int .u64 0, .int .u64 0, .bool false, .int .u64 0, .int .u64 0, .int .i64 0, .int .i64 0]
  have hgm4 := blk_below hb34 hltm hgm3.out
  have hgt4 := blk_below hb34 hlt3 hgt.out
  have hcm4 := blk_cell hgm4
  have hx4 := hx3.out.on hb34
  have hB4 := hB3.out.trans (hb34.mono (Nat.le_of_lt hltm))
  clear hct3 hcm3 hb34
  replace hg9 := hide hg9
  replace hgm4 := hide hgm4
  replace hgt4 := hide hgt4
  replace hx4 := hide hx4
  replace hB4 := hide hB4
  rw [hw4]
  clear hw4 hcm4
  have hg59 : w2.heap.size < w3.heap.size := hlt3
  have key : ∀ (z1 z2 z3 z4 z7 z8 z13 z14 z15 z16 z17 z18 z19 z20 z21 z22 z23 z24 z25 z26 z27 z28 z29 z30 z31 z32 z33 z34 z35 z36 z37 z38 z39 z40 z41 z42 z43 z44 z45 z46 z47 z48 z49 z50 z51 z52 z53 z54 z55 z56 z57 z58 z59 z60 z61 z62 z63 z64 z65 z66 z67 z68 z69 z70 z71 z72 z73 z74 z75 z76 z77 z78 z79 z80 z81 z82 z83 z84 z85 z86 z87 z88 z89 z90 z91 z92 z93 z94 z95 z96 z97 z98 z99 z100 z101 z102 z103 z104 z105 z106 z107 z108 z109 z110 z111 z112 z113 z114 z115 z116 z117 z118 z119 z120 z121 z122 z123 z124 z125 z126 z127 z128 z129 z130 z131 z132 z133 z134 z135 z136 z137 z138 z139 z140 z141 z142 z143 z144 z145 z146 z147 z148 z149 z150 z151 z152 z153 z154 z155 z156 z157 z158 z159 z160 z161 z162 z163 z164 z165 z166 z167 z168 z169 z170 z171 z172 z173 z174 z175 z176 z177 z178 z179 z180 z181 z182 z183 z184 z185 z186 z187 z188 z189 z190 z191 s10 s11 s12 : Value) (wx : World), QRel w4 w3.heap.size v6 K proto shi slo dhi dlo frag rest s10 s11 s12 wx →
      Code.wp Try.prog (restFrom 24 Try.f12.body) (bodyPost Try.prog Try.f12 fun e w' => e = .returned (.bool true) ∧ Below w.heap.size w w') ⟨#[.bool v6, z1, z2, z3, z4, .pointer (some ⟨w2.heap.size, 0, none⟩), .int .i64 (G : Int), z7, z8, .pointer (some ⟨w3.heap.size, 0, none⟩), s10, s11, s12, z13, z14, z15, z16, z17, z18, z19, z20, z21, z22, z23, z24, z25, z26, z27, z28, z29, z30, z31, z32, z33, z34, z35, z36, z37, z38, z39, z40, z41, z42, z43, z44, z45, z46, z47, z48, z49, z50, z51, z52, z53, z54, z55, z56, z57, z58, z59, z60, z61, z62, z63, z64, z65, z66, z67, z68, z69, z70, z71, z72, z73, z74, z75, z76, z77, z78, z79, z80, z81, z82, z83, z84, z85, z86, z87, z88, z89, z90, z91, z92, z93, z94, z95, z96, z97, z98, z99, z100, z101, z102, z103, z104, z105, z106, z107, z108, z109, z110, z111, z112, z113, z114, z115, z116, z117, z118, z119, z120, z121, z122, z123, z124, z125, z126, z127, z128, z129, z130, z131, z132, z133, z134, z135, z136, z137, z138, z139, z140, z141, z142, z143, z144, z145, z146, z147, z148, z149, z150, z151, z152, z153, z154, z155, z156, z157, z158, z159, z160, z161, z162, z163, z164, z165, z166, z167, z168, z169, z170, z171, z172, z173, z174, z175, z176, z177, z178, z179, z180, z181, z182, z183, z184, z185, z186, z187, z188, z189, z190, z191], []⟩ wx := by
    intro z1 z2 z3 z4 z7 z8 z13 z14 z15 z16 z17 z18 z19 z20 z21 z22 z23 z24 z25 z26 z27 z28 z29 z30 z31 z32 z33 z34 z35 z36 z37 z38 z39 z40 z41 z42 z43 z44 z45 z46 z47 z48 z49 z50 z51 z52 z53 z54 z55 z56 z57 z58 z59 z60 z61 z62 z63 z64 z65 z66 z67 z68 z69 z70 z71 z72 z73 z74 z75 z76 z77 z78 z79 z80 z81 z82 z83 z84 z85 z86 z87 z88 z89 z90 z91 z92 z93 z94 z95 z96 z97 z98 z99 z100 z101 z102 z103 z104 z105 z106 z107 z108 z109 z110 z111 z112 z113 z114 z115 z116 z117 z118 z119 z120 z121 z122 z123 z124 z125 z126 z127 z128 z129 z130 z131 z132 z133 z134 z135 z136 z137 z138 z139 z140 z141 z142 z143 z144 z145 z146 z147 z148 z149 z150 z151 z152 z153 z154 z155 z156 z157 z158 z159 z160 z161 z162 z163 z164 z165 z166 z167 z168 z169 z170 z171 z172 z173 z174 z175 z176 z177 z178 z179 z180 z181 z182 z183 z184 z185 z186 z187 z188 z189 z190 z191 s10 s11 s12 wx hrel
    obtain ⟨Ar, cr, fr, rs, p, av, a1, a2, bv, b1, b2, rfl, rfl, rfl, hr, hg9c, hKf, hKn, hbc⟩ := hrel
    have hgt5 := hide (blk_below hbc hg59 hgt4.out)
    have hg9c' := hide hg9c
    have hBx := hide (hB4.out.trans (hbc.mono (Nat.le_of_lt hltm)))
    have hG' := hG.out
    rw [if_neg (by simp)] at hG'
    by_cases hK : K = 0
    · obtain ⟨rfl, rfl, hpe⟩ := hKf hK
      simp only [Value.agg.injEq, Array.mk.injEq, List.cons.injEq, Value.int.injEq, Value.bool.injEq, true_and, and_true] at hpe
      obtain ⟨rfl, rfl, rfl, rfl, rfl, rfl, rfl⟩ := hpe
      rw [if_neg (by omega)] at hG'
      unfold flowK at hG'
      by_cases h1 : 0 < fr
      · rw [if_pos h1] at hG'
        exact qB_21 _ w4 _ _ _ _ _ _ _ _ _ _ _ _ _ _ _ _ _ _ _ _ _ _ _ _ _ _ hgt5 hg9c' hBx hrl (ht0.out (by omega)) hK hG'.symm h1 _ _ _ _ _ _ _ _ _ _ _ _ _ _ _ _ _ _ _ _ _ _ _ _ _ _ _ _ _ _ _ _ _ _ _ _ _ _ _ _ _ _ _ _ _ _ _ _ _ _ _ _ _ _ _ _ _ _ _ _ _ _ _ _ _ _ _ _ _ _ _ _ _ _ _ _ _ _ _ _ _ _ _ _ _ _ _ _ _ _ _ _ _ _ _ _ _ _ _ _ _ _ _ _ _ _ _ _ _ _ _ _ _ _ _ _ _ _ _ _ _ _ _ _ _ _ _ _ _ _ _ _ _ _ _ _ _ _ _ _ _ _ _ _ _ _ _ _ _ _ _ _ _ _ _ _ _ _ _ _ _ _ _ _ _ _ _ _ _ _ _ _ _ _ _ _ _ _ _ _ _ _ _ _ _
      rw [if_neg h1] at hG'
      by_cases h2 : proto ≠ 6 ∧ proto ≠ 17
      · rw [if_pos h2] at hG'
        exact qB_14 _ w4 _ _ _ _ _ _ _ _ _ _ _ _ _ _ _ _ _ _ _ _ _ _ _ _ _ _ hgt5 hg9c' hBx hrl (ht0.out (by omega)) hK hG'.symm (by omega) (by omega) (by omega) _ _ _ _ _ _ _ _ _ _ _ _ _ _ _ _ _ _ _ _ _ _ _ _ _ _ _ _ _ _ _ _ _ _ _ _ _ _ _ _ _ _ _ _ _ _ _ _ _ _ _ _ _ _ _ _ _ _ _ _ _ _ _ _ _ _ _ _ _ _ _ _ _ _ _ _ _ _ _ _ _ _ _ _ _ _ _ _ _ _ _ _ _ _ _ _ _ _ _ _ _ _ _ _ _ _ _ _ _ _ _ _ _ _ _ _ _ _ _ _ _ _ _ _ _ _ _ _ _ _ _ _ _ _ _ _ _ _ _ _ _ _ _ _ _ _ _ _ _ _ _ _ _ _ _ _ _ _ _ _ _ _ _ _ _ _ _ _ _ _ _ _ _ _ _ _ _ _ _ _ _ _ _ _ _
      rw [if_neg h2] at hG'
      by_cases h3 : rs.length < 4
      · rw [if_pos h3] at hG'
        by_cases h6 : proto = 6
        · exact qB_2a _ w4 _ _ _ _ _ _ _ _ _ _ _ _ _ _ _ _ _ _ _ _ _ _ _ _ _ _ hgt5 hg9c' hBx hrl (ht0.out (by omega)) hK hG'.symm (by omega) (by omega) h3 _ _ _ _ _ _ _ _ _ _ _ _ _ _ _ _ _ _ _ _ _ _ _ _ _ _ _ _ _ _ _ _ _ _ _ _ _ _ _ _ _ _ _ _ _ _ _ _ _ _ _ _ _ _ _ _ _ _ _ _ _ _ _ _ _ _ _ _ _ _ _ _ _ _ _ _ _ _ _ _ _ _ _ _ _ _ _ _ _ _ _ _ _ _ _ _ _ _ _ _ _ _ _ _ _ _ _ _ _ _ _ _ _ _ _ _ _ _ _ _ _ _ _ _ _ _ _ _ _ _ _ _ _ _ _ _ _ _ _ _ _ _ _ _ _ _ _ _ _ _ _ _ _ _ _ _ _ _ _ _ _ _ _ _ _ _ _ _ _ _ _ _ _ _ _ _ _ _ _ _ _ _ _ _ _
        · exact qB_2b _ w4 _ _ _ _ _ _ _ _ _ _ _ _ _ _ _ _ _ _ _ _ _ _ _ _ _ _ hgt5 hg9c' hBx hrl (ht0.out (by omega)) hK hG'.symm (by omega) (by omega) h3 _ _ _ _ _ _ _ _ _ _ _ _ _ _ _ _ _ _ _ _ _ _ _ _ _ _ _ _ _ _ _ _ _ _ _ _ _ _ _ _ _ _ _ _ _ _ _ _ _ _ _ _ _ _ _ _ _ _ _ _ _ _ _ _ _ _ _ _ _ _ _ _ _ _ _ _ _ _ _ _ _ _ _ _ _ _ _ _ _ _ _ _ _ _ _ _ _ _ _ _ _ _ _ _ _ _ _ _ _ _ _ _ _ _ _ _ _ _ _ _ _ _ _ _ _ _ _ _ _ _ _ _ _ _ _ _ _ _ _ _ _ _ _ _ _ _ _ _ _ _ _ _ _ _ _ _ _ _ _ _ _ _ _ _ _ _ _ _ _ _ _ _ _ _ _ _ _ _ _ _ _ _ _ _ _
      · rw [if_neg h3] at hG'
        by_cases h6 : proto = 6
        · exact qB_0a _ w4 _ _ _ _ _ _ _ _ _ _ _ _ _ _ _ _ _ _ _ _ _ _ _ _ _ _ hgt5 hg9c' hBx hrl hK hG'.symm (by omega) (by omega) (by omega) (hide hr.reads.2.2.2) (by omega) (Nat.le_of_lt hltm) _ _ rfl rfl (ht1.out hG'.symm) _ _ _ _ _ _ _ _ _ _ _ _ _ _ _ _ _ _ _ _ _ _ _ _ _ _ _ _ _ _ _ _ _ _ _ _ _ _ _ _ _ _ _ _ _ _ _ _ _ _ _ _ _ _ _ _ _ _ _ _ _ _ _ _ _ _ _ _ _ _ _ _ _ _ _ _ _ _ _ _ _ _ _ _ _ _ _ _ _ _ _ _ _ _ _ _ _ _ _ _ _ _ _ _ _ _ _ _ _ _ _ _ _ _ _ _ _ _ _ _ _ _ _ _ _ _ _ _ _ _ _ _ _ _ _ _ _ _ _ _ _ _ _ _ _ _ _ _ _ _ _ _ _ _ _ _ _ _ _ _ _ _ _ _ _ _ _ _ _ _ _ _ _ _ _ _ _ _ _ _ _ _ _ _ _
        · exact qB_0b _ w4 _ _ _ _ _ _ _ _ _ _ _ _ _ _ _ _ _ _ _ _ _ _ _ _ _ _ hgt5 hg9c' hBx hrl hK hG'.symm (by omega) (by omega) (by omega) (hide hr.reads.2.2.2) (by omega) (Nat.le_of_lt hltm) _ _ rfl rfl (ht1.out hG'.symm) _ _ _ _ _ _ _ _ _ _ _ _ _ _ _ _ _ _ _ _ _ _ _ _ _ _ _ _ _ _ _ _ _ _ _ _ _ _ _ _ _ _ _ _ _ _ _ _ _ _ _ _ _ _ _ _ _ _ _ _ _ _ _ _ _ _ _ _ _ _ _ _ _ _ _ _ _ _ _ _ _ _ _ _ _ _ _ _ _ _ _ _ _ _ _ _ _ _ _ _ _ _ _ _ _ _ _ _ _ _ _ _ _ _ _ _ _ _ _ _ _ _ _ _ _ _ _ _ _ _ _ _ _ _ _ _ _ _ _ _ _ _ _ _ _ _ _ _ _ _ _ _ _ _ _ _ _ _ _ _ _ _ _ _ _ _ _ _ _ _ _ _ _ _ _ _ _ _ _ _ _ _ _ _ _
    · rw [if_pos hK] at hG'
      exact qB_K _ w4 _ _ _ _ _ _ _ _ _ _ _ _ _ _ _ _ _ _ _ _ _ _ _ _ _ _ hgt5 hg9c' hBx (by rw [hKn hK]; simp) (ht0.out (by omega)) hK hG'.symm _ _ _ _ _ _ _ _ _ _ _ _ _ _ _ _ _ _ _ _ _ _ _ _ _ _ _ _ _ _ _ _ _ _ _ _ _ _ _ _ _ _ _ _ _ _ _ _ _ _ _ _ _ _ _ _ _ _ _ _ _ _ _ _ _ _ _ _ _ _ _ _ _ _ _ _ _ _ _ _ _ _ _ _ _ _ _ _ _ _ _ _ _ _ _ _ _ _ _ _ _ _ _ _ _ _ _ _ _ _ _ _ _ _ _ _ _ _ _ _ _ _ _ _ _ _ _ _ _ _ _ _ _ _ _ _ _ _ _ _ _ _ _ _ _ _ _ _ _ _ _ _ _ _ _ _ _ _ _ _ _ _ _ _ _ _ _ _ _ _ _ _ _ _ _ _ _ _ _ _ _ _ _ _ _
  rcases v6 with _ | _
  · by_cases hK : K = 0
    · subst hK
      refine qA_four_ok _ w4 _ _ ty cd wd A n c xs hx4 hnc1 hcm hn3 hgm4 hg9 hlt4 proto shi slo dhi dlo frag rest hQ _ _ _ _ _ _ _ _ _ _ _ _ _ _ _ _ _ _ _ _ _ _ _ _ _ _ _ _ _ _ _ _ _ _ _ _ _ _ _ _ _ _ _ _ _ _ _ _ _ _ _ _ _ _ _ _ _ _ _ _ _ _ _ _ _ _ _ _ _ _ _ _ _ _ _ _ _ _ _ _ _ _ _ _ _ _ _ _ _ _ _ _ _ _ _ _ _ _ _ _ _ _ _ _ _ _ _ _ _ _ _ _ _ _ _ _ _ _ _ _ _ _ _ _ _ _ _ _ _ _ _ _ _ _ _ _ _ _ _ _ _ _ _ _ _ _ _ _ _ _ _ _ _ _ _ _ _ _ _ _ _ _ _ _ _ _ _ _ _ _ _ _ _ _ _ _ _ _ _ _ _ _ _ _ _ _ _ _ (fun d _ _ _ _ h => by cases d <;> exact h) ?_
      intro y10 y11 y12 y13 y14 y15 y16 y17 y18 y83 y84 y85 y86 y87 y88 y89 y90 y91 y92 y93 y94 y95 y96 y97 y98 y99 y100 y101 y102 y103 y104 y105 y106 y107 y108 y109 y110 y111 y112 y113 y114 y115 y116 y117 y118 wx hrel
      refine (‹∀ (a : Act) (w : World), Code.wp Try.prog _ _ a w → _›) _ _ ?_
      exact key _ _ _ _ _ _ _ _ _ _ _ _ _ _ _ _ _ _ _ _ _ _ _ _ _ _ _ _ _ _ _ _ _ _ _ _ _ _ _ _ _ _ _ _ _ _ _ _ _ _ _ _ _ _ _ _ _ _ _ _ _ _ _ _ _ _ _ _ _ _ _ _ _ _ _ _ _ _ _ _ _ _ _ _ _ _ _ _ _ _ _ _ _ _ _ _ _ _ _ _ _ _ _ _ _ _ _ _ _ _ _ _ _ _ _ _ _ _ _ _ _ _ _ _ _ _ _ _ _ _ _ _ _ _ _ _ _ _ _ _ _ _ _ _ _ _ _ _ _ _ _ _ _ _ _ _ _ _ _ _ _ _ _ _ _ _ _ _ _ _ _ _ _ _ _ _ _ _ _ _ _ _ _ _ _ _ _ _ _ hrel
    · refine qA_four_fail _ w4 _ _ ty cd wd A n c xs hx4 hnc1 hcm hn3 hgm4 hg9 hlt4 K hK proto shi slo dhi dlo frag rest hQ _ _ _ _ _ _ _ _ _ _ _ _ _ _ _ _ _ _ _ _ _ _ _ _ _ _ _ _ _ _ _ _ _ _ _ _ _ _ _ _ _ _ _ _ _ _ _ _ _ _ _ _ _ _ _ _ _ _ _ _ _ _ _ _ _ _ _ _ _ _ _ _ _ _ _ _ _ _ _ _ _ _ _ _ _ _ _ _ _ _ _ _ _ _ _ _ _ _ _ _ _ _ _ _ _ _ _ _ _ _ _ _ _ _ _ _ _ _ _ _ _ _ _ _ _ _ _ _ _ _ _ _ _ _ _ _ _ _ _ _ _ _ _ _ _ _ _ _ _ _ _ _ _ _ _ _ _ _ _ _ _ _ _ _ _ _ _ _ _ _ _ _ _ _ _ _ _ _ _ _ _ _ _ _ _ _ _ _ (fun d _ _ _ _ h => by cases d <;> exact h) ?_
      intro y10 y11 y12 y13 y14 y15 y16 y17 y18 y83 y84 y85 y86 y87 y88 y89 y90 y91 y92 y93 y94 y95 y96 y97 y98 y99 y100 y101 y102 y103 y104 y105 y106 y107 y108 y109 y110 y111 y112 y113 y114 y115 y116 y117 y118 wx hrel
      refine (‹∀ (a : Act) (w : World), Code.wp Try.prog _ _ a w → _›) _ _ ?_
      exact key _ _ _ _ _ _ _ _ _ _ _ _ _ _ _ _ _ _ _ _ _ _ _ _ _ _ _ _ _ _ _ _ _ _ _ _ _ _ _ _ _ _ _ _ _ _ _ _ _ _ _ _ _ _ _ _ _ _ _ _ _ _ _ _ _ _ _ _ _ _ _ _ _ _ _ _ _ _ _ _ _ _ _ _ _ _ _ _ _ _ _ _ _ _ _ _ _ _ _ _ _ _ _ _ _ _ _ _ _ _ _ _ _ _ _ _ _ _ _ _ _ _ _ _ _ _ _ _ _ _ _ _ _ _ _ _ _ _ _ _ _ _ _ _ _ _ _ _ _ _ _ _ _ _ _ _ _ _ _ _ _ _ _ _ _ _ _ _ _ _ _ _ _ _ _ _ _ _ _ _ _ _ _ _ _ _ _ _ _ hrel
  · by_cases hK : K = 0
    · subst hK
      refine qA_six_ok _ w4 _ _ ty cd wd A n c xs hx4 hnc1 hcm hn3 hgm4 hg9 hlt4 proto shi slo dhi dlo frag rest hQ _ _ _ _ _ _ _ _ _ _ _ _ _ _ _ _ _ _ _ _ _ _ _ _ _ _ _ _ _ _ _ _ _ _ _ _ _ _ _ _ _ _ _ _ _ _ _ _ _ _ _ _ _ _ _ _ _ _ _ _ _ _ _ _ _ _ _ _ _ _ _ _ _ _ _ _ _ _ _ _ _ _ _ _ _ _ _ _ _ _ _ _ _ _ _ _ _ _ _ _ _ _ _ _ _ _ _ _ _ _ _ _ _ _ _ _ _ _ _ _ _ _ _ _ _ _ _ _ _ _ _ _ _ _ _ _ _ _ _ _ _ _ _ _ _ _ _ _ _ _ _ _ _ _ _ _ _ _ _ _ _ _ _ _ _ _ _ _ _ _ _ _ _ _ _ _ _ _ _ _ _ _ _ _ _ _ _ _ (fun d _ _ _ _ h => by cases d <;> exact h) ?_
      intro y10 y11 y12 y13 y14 y15 y16 y17 y18 y83 y84 y85 y86 y87 y88 y89 y90 y91 y92 y93 y94 y95 y96 y97 y98 y99 y100 y101 y102 y103 y104 y105 y106 y107 y108 y109 y110 y111 y112 y113 y114 y115 y116 y117 y118 wx hrel
      refine (‹∀ (a : Act) (w : World), Code.wp Try.prog _ _ a w → _›) _ _ ?_
      exact key _ _ _ _ _ _ _ _ _ _ _ _ _ _ _ _ _ _ _ _ _ _ _ _ _ _ _ _ _ _ _ _ _ _ _ _ _ _ _ _ _ _ _ _ _ _ _ _ _ _ _ _ _ _ _ _ _ _ _ _ _ _ _ _ _ _ _ _ _ _ _ _ _ _ _ _ _ _ _ _ _ _ _ _ _ _ _ _ _ _ _ _ _ _ _ _ _ _ _ _ _ _ _ _ _ _ _ _ _ _ _ _ _ _ _ _ _ _ _ _ _ _ _ _ _ _ _ _ _ _ _ _ _ _ _ _ _ _ _ _ _ _ _ _ _ _ _ _ _ _ _ _ _ _ _ _ _ _ _ _ _ _ _ _ _ _ _ _ _ _ _ _ _ _ _ _ _ _ _ _ _ _ _ _ _ _ _ _ _ hrel
    · refine qA_six_fail _ w4 _ _ ty cd wd A n c xs hx4 hnc1 hcm hn3 hgm4 hg9 hlt4 K hK proto shi slo dhi dlo frag rest hQ _ _ _ _ _ _ _ _ _ _ _ _ _ _ _ _ _ _ _ _ _ _ _ _ _ _ _ _ _ _ _ _ _ _ _ _ _ _ _ _ _ _ _ _ _ _ _ _ _ _ _ _ _ _ _ _ _ _ _ _ _ _ _ _ _ _ _ _ _ _ _ _ _ _ _ _ _ _ _ _ _ _ _ _ _ _ _ _ _ _ _ _ _ _ _ _ _ _ _ _ _ _ _ _ _ _ _ _ _ _ _ _ _ _ _ _ _ _ _ _ _ _ _ _ _ _ _ _ _ _ _ _ _ _ _ _ _ _ _ _ _ _ _ _ _ _ _ _ _ _ _ _ _ _ _ _ _ _ _ _ _ _ _ _ _ _ _ _ _ _ _ _ _ _ _ _ _ _ _ _ _ _ _ _ _ _ _ _ (fun d _ _ _ _ h => by cases d <;> exact h) ?_
      intro y10 y11 y12 y13 y14 y15 y16 y17 y18 y83 y84 y85 y86 y87 y88 y89 y90 y91 y92 y93 y94 y95 y96 y97 y98 y99 y100 y101 y102 y103 y104 y105 y106 y107 y108 y109 y110 y111 y112 y113 y114 y115 y116 y117 y118 wx hrel
      refine (‹∀ (a : Act) (w : World), Code.wp Try.prog _ _ a w → _›) _ _ ?_
      exact key _ _ _ _ _ _ _ _ _ _ _ _ _ _ _ _ _ _ _ _ _ _ _ _ _ _ _ _ _ _ _ _ _ _ _ _ _ _ _ _ _ _ _ _ _ _ _ _ _ _ _ _ _ _ _ _ _ _ _ _ _ _ _ _ _ _ _ _ _ _ _ _ _ _ _ _ _ _ _ _ _ _ _ _ _ _ _ _ _ _ _ _ _ _ _ _ _ _ _ _ _ _ _ _ _ _ _ _ _ _ _ _ _ _ _ _ _ _ _ _ _ _ _ _ _ _ _ _ _ _ _ _ _ _ _ _ _ _ _ _ _ _ _ _ _ _ _ _ _ _ _ _ _ _ _ _ _ _ _ _ _ _ _ _ _ _ _ _ _ _ _ _ _ _ _ _ _ _ _ _ _ _ _ _ _ _ _ _ _ hrel
end Icmp
end Go.Proofs.Ytniieckjooahfaa
