/- The statement IcmpPuts, walked: any message's bytes, and that they are parsed as they were put. Conditions: slices of bytes that read as lists. -/
import Derived.Test.YtniieckjooahfaaIcmpBytes
import Derived.Test.YtniieckjooahfaaIcmpParsesWalk
namespace Go.Proofs.Ytniieckjooahfaa
open Go.RowKit Go.ChangeShapes Go.WideShapes Go.ChangeAt Go.Deep
namespace Icmp
/-! ### Plain -/
theorem head0_length (t k wd : Nat) (xs : List UInt8) : (head0 t k wd xs).length = xs.length + 8 := by simp [head0, beB_length]; omega
theorem msgB_length (ps : List UInt8) (t k wd : Nat) (xs : List UInt8) : (msgB ps t k wd xs).length = xs.length + 8 := by
  unfold msgB
  rw [setB_length _ _ _ (by rw [beB_length, head0_length]; omega), head0_length]
theorem msgB_sum (ps : List UInt8) (t k wd : Nat) (xs : List UInt8) (he : ps.length % 2 = 0) : Sum.ones (Sum.tot false (ps ++ msgB ps t k wd xs)) = 65535 := by
  unfold msgB
  rw [Sum.tot_set ps (head0 t k wd xs) 2 _ (by omega) (by rw [head0_length]; omega) (by simp [head0]) (by omega)]
  exact Sum.ones_check _
theorem msgB_form (ps : List UInt8) (t k wd : Nat) (xs : List UInt8) : ∃ a b, msgB ps t k wd xs = [UInt8.ofNat t, UInt8.ofNat k, a, b] ++ (beB wd 4 ++ xs) ∧
    a = UInt8.ofNat ((65535 - Sum.ones (Sum.tot false (ps ++ head0 t k wd xs))) / 256) ∧ b = UInt8.ofNat (65535 - Sum.ones (Sum.tot false (ps ++ head0 t k wd xs))) := by
  refine ⟨_, _, ?_, rfl, rfl⟩
  unfold msgB
  generalize 65535 - Sum.ones (Sum.tot false (ps ++ head0 t k wd xs)) = c
  simp [setB, head0, beB]
theorem msgB_get (ps : List UInt8) (t k wd : Nat) (xs : List UInt8) (ht : t ≤ 255) (hk : k ≤ 255) (hwd : wd < 4294967296) :
    ((msgB ps t k wd xs).getD 0 0).toNat = t ∧ ((msgB ps t k wd xs).getD 1 0).toNat = k ∧ beN (msgB ps t k wd xs) 4 4 = wd ∧ (msgB ps t k wd xs).drop 8 = xs := by
  obtain ⟨a, b, e, _, _⟩ := msgB_form ps t k wd xs
  rw [e]
  refine ⟨?_, ?_, beN_put wd 4 _ xs 4 rfl hwd, ?_⟩
  · simp; omega
  · simp; omega
  · simp [beB]
/-! ### The walk -/
theorem msgB_set (ps : List UInt8) (t k wd : Nat) (xs : List UInt8) : msgB ps t k wd xs = ((head0 t k wd xs).set 2 (UInt8.ofNat ((65535 - Sum.ones (Sum.tot false (ps ++ head0 t k wd xs))) / 256))).set 3 (UInt8.ofNat (65535 - Sum.ones (Sum.tot false (ps ++ head0 t k wd xs)))) := by
  unfold msgB
  generalize 65535 - Sum.ones (Sum.tot false (ps ++ head0 t k wd xs)) = c
  simp [setB, head0, beB]
set_option maxHeartbeats 2000000 in
theorem puts_no_even (t k wd : Int) (A : Option Addr) (n c n1 : Nat) (P : Option Addr) (m d m1 : Nat) (xs ps : List UInt8) (w : World) (hx : IsB w w.heap.size A n1 xs) (hp : IsB w w.heap.size P m1 ps) (hnm : n ≤ maxLen) (hm : m ≤ maxLen) (hnc : n ≤ c) (hmd : m ≤ d) (hn1 : min n 300 = n1) (hm1 : min m 300 = m1) (hb3 : m1 ≤ 300)
    (h : ¬ ((0 ≤ t ∧ t ≤ 255) ∧ 0 ≤ k ∧ k ≤ 255)) (hq : m1 % 2 = 0) :
    Calls Try.prog 7 #[.agg #[.int .i64 t, .int .i64 k, .int .u32 wd, .slice A n c], .slice P m d] w fun e w' => e = .returned (.bool true) ∧ Below w.heap.size w w' := by
  replace hn1 := hide hn1
  replace hm1 := hide hm1
  have hpar : ((m1 : Int).tmod 2 == 1) = false := by rw [beq_eq_false_iff_ne, Int.tmod_eq_emod_of_nonneg (by omega)]; omega
  have hpar' : ((m1 : Int) % 2 == 1) = false := by rw [beq_eq_false_iff_ne]; omega
  have he : ps.length % 2 = 0 := by rw [hp.1]; omega
  have hp2 := hp
  obtain ⟨m2, rfl⟩ : ∃ m2, m2 = m1 := ⟨_, rfl⟩
  obtain ⟨P2, rfl⟩ : ∃ P2, P2 = P := ⟨_, rfl⟩
  obtain ⟨d2, rfl⟩ : ∃ d2, d2 = d := ⟨_, rfl⟩
  obtain ⟨ps2, rfl⟩ : ∃ ps2, ps2 = ps := ⟨_, rfl⟩
  have hm2l : m2 ≤ 300 := by omega
  replace hp := hide hp
  replace hp2 := hide hp2
  replace he := hide he
  replace hx := hide hx
  have hdec : (decide (0 ≤ t) && decide (t ≤ 255) && decide (0 ≤ k) && decide (k ≤ 255)) = false := by
    rw [Bool.eq_false_iff]; intro e; simp only [Bool.and_eq_true, decide_eq_true_eq] at e; omega
  replace h := hide h
  go_enter Try.func7, Try.ntmps7
  go_wp2_with fail
  refine (cut_as A n c n1 _ hnm hnc hn1.out).mono ?_
  rintro e w' ⟨rfl, rfl⟩
  go_wp2_with fail
  refine (cut_as _ m _ _ _ hm hmd hm1.out).mono ?_
  rintro e w' ⟨rfl, rfl⟩
  go_wp2_with fail
  refine (bytes_no t k wd A n1 c P2 m2 d2 _ h.out).mono ?_
  rintro e w1 ⟨rfl, hb1⟩
  have hz1 := hb1.size
  simp only [World.size_alloc] at hz1
  have hlt1 : w.heap.size < w1.heap.size := by omega
  have hblk1 := blk_below hb1 (by simp) (blk_new w 39 #[.int .i64 t, .int .i64 k, .int .u32 wd, .slice A n1 c])
  have hcell1 := blk_cell hblk1
  replace hb1 := hide hb1
  replace hblk1 := hide hblk1
  rcases hd1 : decide (0 ≤ t) with _ | _ <;> rcases hd2 : decide (t ≤ 255) with _ | _ <;> rcases hd3 : decide (0 ≤ k) with _ | _ <;> rcases hd4 : decide (k ≤ 255) with _ | _ <;> first | (exfalso; have hh := h.out; simp only [decide_eq_true_eq, decide_eq_false_iff_not] at hd1 hd2 hd3 hd4; omega) | skip
  all_goals
    have q1 := hd1
    have q2 := hd2
    have q3 := hd3
    have q4 := hd4
    simp only [decide_eq_true_eq, decide_eq_false_iff_not] at q1 q2 q3 q4
    clear hdec
    go_wp2_with fail
    refine (right_no t k wd A n1 c _ h.out).mono ?_
    rintro e w2 ⟨rfl, hb2⟩
    go_wp2_with fail
    refine (awake_any _).mono ?_
    rintro e w3 ⟨rfl, hb3⟩
    go_wp2_with fail
    go_ret
    exact ⟨rfl, ((((Below.refl _ _).alloc (Nat.le_refl _) _).trans (hb1.out.mono (by simp))).trans (hb2.mono (by omega))).trans (hb3.mono (by have := hb2.size; omega))⟩
set_option maxHeartbeats 2000000 in
theorem puts_no_odd (t k wd : Int) (A : Option Addr) (n c n1 : Nat) (P : Option Addr) (m d m1 : Nat) (xs ps : List UInt8) (w : World) (hx : IsB w w.heap.size A n1 xs) (hp : IsB w w.heap.size P m1 ps) (hnm : n ≤ maxLen) (hm : m ≤ maxLen) (hnc : n ≤ c) (hmd : m ≤ d) (hn1 : min n 300 = n1) (hm1 : min m 300 = m1) (hb3 : m1 ≤ 300)
    (h : ¬ ((0 ≤ t ∧ t ≤ 255) ∧ 0 ≤ k ∧ k ≤ 255)) (hq : m1 % 2 = 1) :
    Calls Try.prog 7 #[.agg #[.int .i64 t, .int .i64 k, .int .u32 wd, .slice A n c], .slice P m d] w fun e w' => e = .returned (.bool true) ∧ Below w.heap.size w w' := by
  replace hn1 := hide hn1
  replace hm1 := hide hm1
  have hpar : ((m1 : Int).tmod 2 == 1) = true := by rw [beq_iff_eq, Int.tmod_eq_emod_of_nonneg (by omega)]; omega
  have hpar' : ((m1 : Int) % 2 == 1) = true := by rw [beq_iff_eq]; omega
  obtain ⟨pb, po, rfl, hpbl, _⟩ := hp.ptr (by omega)
  obtain ⟨P2, hP2⟩ : ∃ P2, (if d = 1 then some (⟨pb, po, none⟩ : Addr) else some ⟨pb, po + 1, none⟩) = P2 := ⟨_, rfl⟩
  have hp2 := hp.dropAt hP2 (by omega) (by have := hm1.out; omega : m1 ≤ d)
  have i1 : (1 : Int) ≤ (m1 : Int) := by omega
  have j1 : 1 ≤ m1 := by omega
  have he : (ps.drop 1).length % 2 = 0 := by rw [List.length_drop, hp.1]; omega
  obtain ⟨m2, hm2⟩ : ∃ m2, m1 - 1 = m2 := ⟨_, rfl⟩
  obtain ⟨d2, hd2⟩ : ∃ d2, d - 1 = d2 := ⟨_, rfl⟩
  obtain ⟨ps2, hps2⟩ : ∃ ps2, ps.drop 1 = ps2 := ⟨_, rfl⟩
  rw [hm2, hps2] at hp2
  rw [hps2] at he
  have hm2l : m2 ≤ 300 := by omega
  replace hps2 := hide hps2
  replace hp := hide hp
  replace hp2 := hide hp2
  replace he := hide he
  replace hx := hide hx
  have hdec : (decide (0 ≤ t) && decide (t ≤ 255) && decide (0 ≤ k) && decide (k ≤ 255)) = false := by
    rw [Bool.eq_false_iff]; intro e; simp only [Bool.and_eq_true, decide_eq_true_eq] at e; omega
  replace h := hide h
  go_enter Try.func7, Try.ntmps7
  go_wp2_with fail
  refine (cut_as A n c n1 _ hnm hnc hn1.out).mono ?_
  rintro e w' ⟨rfl, rfl⟩
  go_wp2_with fail
  refine (cut_as _ m _ _ _ hm hmd hm1.out).mono ?_
  rintro e w' ⟨rfl, rfl⟩
  go_wp2_with fail
  refine (bytes_no t k wd A n1 c P2 m2 d2 _ h.out).mono ?_
  rintro e w1 ⟨rfl, hb1⟩
  have hz1 := hb1.size
  simp only [World.size_alloc] at hz1
  have hlt1 : w.heap.size < w1.heap.size := by omega
  have hblk1 := blk_below hb1 (by simp) (blk_new w 39 #[.int .i64 t, .int .i64 k, .int .u32 wd, .slice A n1 c])
  have hcell1 := blk_cell hblk1
  replace hb1 := hide hb1
  replace hblk1 := hide hblk1
  rcases hd1 : decide (0 ≤ t) with _ | _ <;> rcases hd2 : decide (t ≤ 255) with _ | _ <;> rcases hd3 : decide (0 ≤ k) with _ | _ <;> rcases hd4 : decide (k ≤ 255) with _ | _ <;> first | (exfalso; have hh := h.out; simp only [decide_eq_true_eq, decide_eq_false_iff_not] at hd1 hd2 hd3 hd4; omega) | skip
  all_goals
    have q1 := hd1
    have q2 := hd2
    have q3 := hd3
    have q4 := hd4
    simp only [decide_eq_true_eq, decide_eq_false_iff_not] at q1 q2 q3 q4
    clear hdec
    go_wp2_with fail
    refine (right_no t k wd A n1 c _ h.out).mono ?_
    rintro e w2 ⟨rfl, hb2⟩
    go_wp2_with fail
    refine (awake_any _).mono ?_
    rintro e w3 ⟨rfl, hb3⟩
    go_wp2_with fail
    go_ret
    exact ⟨rfl, ((((Below.refl _ _).alloc (Nat.le_refl _) _).trans (hb1.out.mono (by simp))).trans (hb2.mono (by omega))).trans (hb3.mono (by have := hb2.size; omega))⟩
set_option maxHeartbeats 4000000 in
theorem puts_yes_even (t k wd : Nat) (A : Option Addr) (n c n1 : Nat) (P : Option Addr) (m d m1 : Nat) (xs ps : List UInt8) (w : World) (hx : IsB w w.heap.size A n1 xs) (hp : IsB w w.heap.size P m1 ps) (hnm : n ≤ maxLen) (hm : m ≤ maxLen) (hnc : n ≤ c) (hmd : m ≤ d) (hn1 : min n 300 = n1) (hm1 : min m 300 = m1) (hb3 : m1 ≤ 300) (hb4 : n1 ≤ 300)
    (ht : t ≤ 255) (hk : k ≤ 255) (hwd : wd < 4294967296) (hq : m1 % 2 = 0) :
    Calls Try.prog 7 #[.agg #[.int .i64 (t : Int), .int .i64 (k : Int), .int .u32 (wd : Int), .slice A n c], .slice P m d] w fun e w' => e = .returned (.bool true) ∧ Below w.heap.size w w' := by
  replace hn1 := hide hn1
  replace hm1 := hide hm1
  have hpar : ((m1 : Int).tmod 2 == 1) = false := by rw [beq_eq_false_iff_ne, Int.tmod_eq_emod_of_nonneg (by omega)]; omega
  have hpar' : ((m1 : Int) % 2 == 1) = false := by rw [beq_eq_false_iff_ne]; omega
  have he : ps.length % 2 = 0 := by rw [hp.1]; omega
  have hp2 := hp
  obtain ⟨m2, rfl⟩ : ∃ m2, m2 = m1 := ⟨_, rfl⟩
  obtain ⟨P2, rfl⟩ : ∃ P2, P2 = P := ⟨_, rfl⟩
  obtain ⟨d2, rfl⟩ : ∃ d2, d2 = d := ⟨_, rfl⟩
  obtain ⟨ps2, rfl⟩ : ∃ ps2, ps2 = ps := ⟨_, rfl⟩
  have hm2l : m2 ≤ 300 := by omega
  replace hp := hide hp
  replace hp2 := hide hp2
  replace he := hide he
  replace hx := hide hx
  have hxl := hx.out.1
  have hpl := hp2.out.1
  obtain ⟨C, hC⟩ : ∃ C, 65535 - Sum.ones (Sum.tot false (ps2 ++ head0 t k wd xs)) = C := ⟨_, rfl⟩
  have hC16 : C ≤ 65535 := by omega
  have a1 : (0 : Int) ≤ (t : Int) := by omega
  have a2 : (t : Int) ≤ 255 := by omega
  have a3 : (0 : Int) ≤ (k : Int) := by omega
  have a4 : (k : Int) ≤ 255 := by omega
  replace hC := hide hC
  replace hxl := hide hxl
  replace hpl := hide hpl
  go_enter Try.func7, Try.ntmps7
  go_wp2_with fail
  refine (cut_as A n c n1 _ hnm hnc hn1.out).mono ?_
  rintro e w' ⟨rfl, rfl⟩
  go_wp2_with fail
  refine (cut_as _ m _ _ _ hm hmd hm1.out).mono ?_
  rintro e w' ⟨rfl, rfl⟩
  go_wp2_with fail
  have hbox := Below.alloc (Below.refl w.heap.size w) (Nat.le_refl _) (.cells #[.int .i64 (t : Int), .int .i64 (k : Int), .int .u32 (wd : Int), .slice A n1 c] 39)
  refine (bytes_yes t k wd A n1 c P2 m2 d2 xs ps2 _ ht hk hwd (hx.out.on hbox) (hp2.out.on hbox) (by omega) (by unfold maxLen; omega)).mono ?_
  rintro e w1 ⟨v1, rfl, hown1, hb1⟩
  have hz1 := hb1.size
  simp only [World.size_alloc] at hz1
  have hlt1 : w.heap.size < w1.heap.size := by omega
  have hblk1 := blk_below hb1 (by simp) (blk_new w 39 #[.int .i64 (t : Int), .int .i64 (k : Int), .int .u32 (wd : Int), .slice A n1 c])
  have hcell1 := blk_cell hblk1
  have hbw1 : Below w.heap.size w w1 := hbox.trans (hb1.mono (by simp))
  obtain ⟨A1, c1, rfl, hc1, hm1', hi1⟩ := hown1.form
  have hml := msgB_length ps2 t k wd xs
  rw [hxl.out] at hml
  rw [hml] at hown1 hi1 hc1 ⊢
  replace hb1 := hide hb1
  replace hbox := hide hbox
  replace hblk1 := hide hblk1
  replace hown1 := hide hown1
  replace hi1 := hide hi1
  replace hml := hide hml
  replace hbw1 := hide hbw1
  go_wp2_with fail
  refine (right_yes _ _ (.int .u32 (wd : Int)) A n1 c _ (by omega) (by omega) (wd : Int) rfl).mono ?_
  rintro e w2 ⟨rfl, hb2⟩
  have hz2 := hb2.size
  have hlt2 : w.heap.size < w2.heap.size := by omega
  have hblk2 := blk_below hb2 hlt1 hblk1.out
  have hcell2 := blk_cell hblk2
  have hbw2 : Below w.heap.size w w2 := hbw1.out.trans (hb2.mono (by omega))
  have hi2 := hi1.out.on hb2
  have hx2 := hx.out.on hbw2
  clear hcell1
  replace hb2 := hide hb2
  replace hblk2 := hide hblk2
  replace hbw2 := hide hbw2
  replace hi2 := hide hi2
  replace hx2 := hide hx2
  obtain ⟨W0, hW0⟩ : ∃ W0 : List UInt8, [UInt8.ofNat t, UInt8.ofNat k, 0, 0, UInt8.ofNat (wd / 16777216), UInt8.ofNat (wd / 65536), UInt8.ofNat (wd / 256), UInt8.ofNat wd] = W0 := ⟨_, rfl⟩
  have hW0l : W0.length = 8 := by rw [← hW0]; rfl
  have hW0v : [Value.int .u8 (t : Int), .int .u8 (k : Int), .int .u8 0, .int .u8 0, .int .u8 ((wd : Int) / 16777216), .int .u8 ((wd : Int) / 65536 % 256), .int .u8 ((wd : Int) / 256 % 256), .int .u8 ((wd : Int) % 256)] = W0.map u8v := by
    rw [← hW0]
    simp only [List.map_cons, List.map_nil, u8v_nat t ht, u8v_nat k hk, u8v_nat _ (show wd / 16777216 ≤ 255 by omega), ← u8v_mod]
    rfl
  have hW0h : W0 ++ xs = head0 t k wd xs := by rw [← hW0]; simp [head0, beB]
  have hown2 : OwnB (w2.alloc (.cells #[.int .u8 (t : Int), .int .u8 (k : Int), .int .u8 0, .int .u8 0, .int .u8 ((wd : Int) / 16777216), .int .u8 ((wd : Int) / 65536 % 256), .int .u8 ((wd : Int) / 256 % 256), .int .u8 ((wd : Int) % 256)] 5)) w2.heap.size (.slice (some ⟨w2.heap.size, 0, none⟩) 8 8) W0 :=
    OwnB.litv w2 w2.heap.size _ W0 8 hW0v hW0l (Nat.le_refl _) (by omega)
  replace hW0 := hide hW0
  replace hW0v := hide hW0v
  replace hW0h := hide hW0h
  replace hW0l := hide hW0l
  replace hown2 := hide hown2
  go_wp2_with (at_builtin; refine wpl_src_bv rfl (.tmp 86) (.tmp 88) rfl w2.heap.size _ W0 xs _ _ _ (w2.heap.size + 1) rfl rfl ?_ ?_ ?_ ?_ ?_)
  · exact hown2.out
  · exact (hx2.out.alloc _).more (by simp)
  · simp
  · rw [hW0l.out]; omega
  intro v3 w3 hown3 hg3
  rw [hW0h.out] at hown3
  have hb3' := hg3.below hown2.out (by simp)
  have hbw3 : Below w2.heap.size w2 w3 := ((Below.refl _ _).alloc (Nat.le_refl _) _).trans hb3'
  have hz3 := hb3'.size
  simp only [World.size_alloc] at hz3
  obtain ⟨A3, c3, rfl, hc3, hm3, hi3⟩ := hown3.form
  have hhl := head0_length t k wd xs
  rw [hxl.out] at hhl
  rw [hhl] at hown3 hi3 hc3 ⊢
  have hp3 := (hp2.out.on (hbw2.out.trans (hbw3.mono (by omega))))
  replace hhl := hide hhl
  replace hown3 := hide hown3
  replace hi3 := hide hi3
  replace hp3 := hide hp3
  replace hg3 := hide hg3
  replace hb3' := hide hb3'
  replace hbw3 := hide hbw3
  clear hcell2
  go_wp2_with (at_builtin; refine wpl_src_bv rfl (.tmp 90) (.tmp 91) rfl w3.heap.size _ [] ps2 _ _ _ (w3.heap.size + 1) rfl rfl ?_ ?_ ?_ ?_ ?_)
  · exact OwnB.emptyAt _ _ rfl _ (Nat.le_refl _)
  · exact (hp3.out.alloc _).more (by simp)
  · simp
  · simp; omega
  intro v4 w4 hown4 hg4
  have hb4' := hg4.below (OwnB.emptyAt w3 _ rfl _ (Nat.le_refl _)) (by simp)
  have hz4 := hb4'.size
  simp only [World.size_alloc] at hz4
  have hbw4 : Below w3.heap.size w3 w4 := ((Below.refl _ _).alloc (Nat.le_refl _) _).trans hb4'
  have hi4 := hi3.out.on hbw4
  replace hown4 := hide hown4
  replace hg4 := hide hg4
  replace hb4' := hide hb4'
  replace hbw4 := hide hbw4
  replace hi4 := hide hi4
  go_wp2_with (at_builtin; refine wpl_src_bv rfl (.tmp 92) (.tmp 93) rfl w3.heap.size _ ps2 (head0 t k wd xs) _ _ _ w4.heap.size rfl rfl ?_ ?_ ?_ ?_ ?_)
  · exact hown4.out
  · exact hi4.out
  · omega
  · rw [hpl.out]; omega
  intro v5 w5 hown5 hg5
  have hb5' := hg5.below hown4.out (by omega)
  have hz5 := hb5'.size
  obtain ⟨A5, c5, rfl, hc5, hm5, hi5⟩ := hown5.form
  obtain ⟨n5, hn5⟩ : ∃ nn, (ps2 ++ head0 t k wd xs).length = nn := ⟨_, rfl⟩
  have hn5b : n5 ≤ 1048576 := by rw [← hn5, List.length_append, hpl.out, hhl.out]; omega
  rw [hn5] at hi5 hc5 ⊢
  have hown53 : OwnB w5 w2.heap.size (.slice A3 (n1 + 8) c3) (head0 t k wd xs) := hown3.out.below (hbw4.out.trans hb5')
  replace hown5 := hide hown5
  replace hi5 := hide hi5
  replace hg5 := hide hg5
  replace hb5' := hide hb5'
  replace hn5 := hide hn5
  replace hown53 := hide hown53
  go_wp2_with fail
  refine (Sum.refCheck_any _ _ _ (ps2 ++ head0 t k wd xs) _ hi5.out hn5b).mono ?_
  rintro e w6 ⟨rfl, hb6⟩
  rw [hC.out]
  have hz6 := hb6.size
  have hown6 := hown53.out.below hb6
  have hi6 := hown6.reads.2.2.2
  obtain ⟨g3, cur, rfl, hg3b, hh3, hcl3, htk3, _, _, hl3⟩ := hown6.row (by omega)
  obtain ⟨_, _, _, hc62⟩ := hi6.byteAt (i := 2) (by omega)
  obtain ⟨_, _, _, hc63⟩ := hi6.byteAt (i := 3) (by omega)
  rw [Nat.zero_add] at hc62 hc63
  have hz62 := blk_free hh3 2
  have hz63 := blk_free hh3 3
  have i2 : (2 : Int) < ((n1 + 8 : Nat) : Int) := by omega
  have i3 : (3 : Int) < ((n1 + 8 : Nat) : Int) := by omega
  have hg3l : g3 < w6.heap.size := (Array.getElem?_eq_some_iff.1 hh3).1
  have hbw6 : Below w2.heap.size w2 w6 := ((hbw3.out.trans (hbw4.out.mono (by omega))).trans (hb5'.out.mono (by omega))).trans (hb6.mono (by omega))
  clear htk3
  replace hh3 := hide hh3
  replace hi6 := hide hi6
  replace hown6 := hide hown6
  replace hb6 := hide hb6
  replace hbw6 := hide hbw6
  replace hcl3 := hide hcl3
  replace hl3 := hide hl3
  go_wp2_with fail
  obtain ⟨w7, hw7⟩ : ∃ w7, (w6.setCell ⟨g3, 2, none⟩ (.int .u8 ((C : Int) / 256))).setCell ⟨g3, 3, none⟩ (.int .u8 ((C : Int) % 256)) = w7 := ⟨_, rfl⟩
  rw [hw7]
  have hown7 : OwnB w7 w2.heap.size (.slice (some ⟨g3, 0, none⟩) (n1 + 8) c3) (msgB ps2 t k wd xs) := by
    have h1 := (hown6.out.store 2 (UInt8.ofNat (C / 256))).store 3 (UInt8.ofNat C)
    rw [u8v_nat _ (show C / 256 ≤ 255 by omega), ← u8v_mod] at h1
    rw [← hw7, msgB_set, hC.out]
    exact h1
  have hbw7 : Below w2.heap.size w2 w7 := by rw [← hw7]; exact (hbw6.out.setCell (p := ⟨g3, 2, none⟩) hg3b _).setCell (p := ⟨g3, 3, none⟩) hg3b _
  have hz7 := hbw7.size
  have hi7 := hi2.out.on hbw7
  have hp7 := (hp2.out.on hbw2.out).on hbw7
  replace hown7 := hide hown7
  clear hw7 hc62 hc63 hz62 hz63
  replace hbw7 := hide hbw7
  replace hi7 := hide hi7
  replace hp7 := hide hp7
  refine (parse_ok A1 P2 (n1 + 8) c1 m2 d2 (msgB ps2 t k wd xs) ps2 _ hi7.out hp7.out (by omega) (by omega) (by omega) (by unfold maxLen; omega) (msgB_sum _ _ _ _ _ he.out)).mono ?_
  rintro e w8 ⟨A8, m8, c8, rfl, hi8, hmc8, hcm8, hb8⟩
  obtain ⟨q1, q2, q3, q4⟩ := msgB_get ps2 t k wd xs ht hk hwd
  have hmsg : msgV (msgB ps2 t k wd xs) A8 m8 c8 = .agg #[.int .i64 (t : Int), .int .i64 (k : Int), .int .u32 (wd : Int), .slice A8 m8 c8] := by
    unfold msgV
    rw [q1, q2, q3]
  rw [hmsg]
  rw [q4] at hi8
  clear q1 q2 q3 q4 hmsg
  have hz8 := hb8.size
  have hlt8 : w.heap.size < w8.heap.size := by omega
  have hblk8 := blk_below hb8 (by omega) (blk_below hbw7.out hlt2 hblk2.out)
  have hcell8 := blk_cell hblk8
  have hown8 := hown7.out.below hb8
  obtain ⟨w9, hw9⟩ : ∃ w9, w8.alloc (.cells #[.int .i64 (t : Int), .int .i64 (k : Int), .int .u32 (wd : Int), .slice A8 m8 c8] 39) = w9 := ⟨_, rfl⟩
  have hb9 : Below w8.heap.size w8 w9 := hw9 ▸ (Below.refl _ _).alloc (Nat.le_refl _) _
  have hs1 := ((hi7.out.on hb8).on hb9).str c1
  have hs3 := ((hown8.below hb9).reads.2.2.2).str c3
  have hz9 := hb9.size
  have hx9 := (((hx2.out.on hbw7.out).on hb8).on hb9)
  have hi9 := hi8.on hb9
  have hblk9 := blk_below hb9 hlt8 hblk8
  have hblk9' : w9.heap[w8.heap.size]? = some (.cells #[.int .i64 (t : Int), .int .i64 (k : Int), .int .u32 (wd : Int), .slice A8 m8 c8] 39 (0, 0)) := hw9 ▸ blk_new _ _ _
  have hcell9 := blk_cell hblk9
  have hcell9' := blk_cell hblk9'
  clear hcell8
  replace hblk8 := hide hblk8
  replace hblk9 := hide hblk9
  replace hblk9' := hide hblk9'
  replace hown8 := hide hown8
  replace hb8 := hide hb8
  replace hb9 := hide hb9
  replace hx9 := hide hx9
  replace hi9 := hide hi9
  replace hi8 := hide hi8
  go_wp2_with fail
  refine (same_eq _ _ _ _ _ _ _ _ _ xs _ hi9.out hx9.out).mono ?_
  rintro e w10 ⟨rfl, hb10⟩
  go_wp2_with fail
  refine (awake_any _).mono ?_
  rintro e w11 ⟨rfl, hb11⟩
  go_wp2_with fail
  go_ret
  have hz10 := hb10.size
  exact ⟨rfl, (((((hbw2.out.trans (hbw7.out.mono (by omega))).trans (hb8.out.mono (by omega))).trans (hb9.out.mono (by omega))).trans (hb10.mono (by omega))).trans (hb11.mono (by omega)))⟩
set_option maxHeartbeats 4000000 in
theorem puts_yes_odd (t k wd : Nat) (A : Option Addr) (n c n1 : Nat) (P : Option Addr) (m d m1 : Nat) (xs ps : List UInt8) (w : World) (hx : IsB w w.heap.size A n1 xs) (hp : IsB w w.heap.size P m1 ps) (hnm : n ≤ maxLen) (hm : m ≤ maxLen) (hnc : n ≤ c) (hmd : m ≤ d) (hn1 : min n 300 = n1) (hm1 : min m 300 = m1) (hb3 : m1 ≤ 300) (hb4 : n1 ≤ 300)
    (ht : t ≤ 255) (hk : k ≤ 255) (hwd : wd < 4294967296) (hq : m1 % 2 = 1) :
    Calls Try.prog 7 #[.agg #[.int .i64 (t : Int), .int .i64 (k : Int), .int .u32 (wd : Int), .slice A n c], .slice P m d] w fun e w' => e = .returned (.bool true) ∧ Below w.heap.size w w' := by
  replace hn1 := hide hn1
  replace hm1 := hide hm1
  have hpar : ((m1 : Int).tmod 2 == 1) = true := by rw [beq_iff_eq, Int.tmod_eq_emod_of_nonneg (by omega)]; omega
  have hpar' : ((m1 : Int) % 2 == 1) = true := by rw [beq_iff_eq]; omega
  obtain ⟨pb, po, rfl, hpbl, _⟩ := hp.ptr (by omega)
  obtain ⟨P2, hP2⟩ : ∃ P2, (if d = 1 then some (⟨pb, po, none⟩ : Addr) else some ⟨pb, po + 1, none⟩) = P2 := ⟨_, rfl⟩
  have hp2 := hp.dropAt hP2 (by omega) (by have := hm1.out; omega : m1 ≤ d)
  have i1 : (1 : Int) ≤ (m1 : Int) := by omega
  have j1 : 1 ≤ m1 := by omega
  have he : (ps.drop 1).length % 2 = 0 := by rw [List.length_drop, hp.1]; omega
  obtain ⟨m2, hm2⟩ : ∃ m2, m1 - 1 = m2 := ⟨_, rfl⟩
  obtain ⟨d2, hd2⟩ : ∃ d2, d - 1 = d2 := ⟨_, rfl⟩
  obtain ⟨ps2, hps2⟩ : ∃ ps2, ps.drop 1 = ps2 := ⟨_, rfl⟩
  rw [hm2, hps2] at hp2
  rw [hps2] at he
  have hm2l : m2 ≤ 300 := by omega
  replace hps2 := hide hps2
  replace hp := hide hp
  replace hp2 := hide hp2
  replace he := hide he
  replace hx := hide hx
  have hxl := hx.out.1
  have hpl := hp2.out.1
  obtain ⟨C, hC⟩ : ∃ C, 65535 - Sum.ones (Sum.tot false (ps2 ++ head0 t k wd xs)) = C := ⟨_, rfl⟩
  have hC16 : C ≤ 65535 := by omega
  have a1 : (0 : Int) ≤ (t : Int) := by omega
  have a2 : (t : Int) ≤ 255 := by omega
  have a3 : (0 : Int) ≤ (k : Int) := by omega
  have a4 : (k : Int) ≤ 255 := by omega
  replace hC := hide hC
  replace hxl := hide hxl
  replace hpl := hide hpl
  go_enter Try.func7, Try.ntmps7
  go_wp2_with fail
  refine (cut_as A n c n1 _ hnm hnc hn1.out).mono ?_
  rintro e w' ⟨rfl, rfl⟩
  go_wp2_with fail
  refine (cut_as _ m _ _ _ hm hmd hm1.out).mono ?_
  rintro e w' ⟨rfl, rfl⟩
  go_wp2_with fail
  have hbox := Below.alloc (Below.refl w.heap.size w) (Nat.le_refl _) (.cells #[.int .i64 (t : Int), .int .i64 (k : Int), .int .u32 (wd : Int), .slice A n1 c] 39)
  refine (bytes_yes t k wd A n1 c P2 m2 d2 xs ps2 _ ht hk hwd (hx.out.on hbox) (hp2.out.on hbox) (by omega) (by unfold maxLen; omega)).mono ?_
  rintro e w1 ⟨v1, rfl, hown1, hb1⟩
  have hz1 := hb1.size
  simp only [World.size_alloc] at hz1
  have hlt1 : w.heap.size < w1.heap.size := by omega
  have hblk1 := blk_below hb1 (by simp) (blk_new w 39 #[.int .i64 (t : Int), .int .i64 (k : Int), .int .u32 (wd : Int), .slice A n1 c])
  have hcell1 := blk_cell hblk1
  have hbw1 : Below w.heap.size w w1 := hbox.trans (hb1.mono (by simp))
  obtain ⟨A1, c1, rfl, hc1, hm1', hi1⟩ := hown1.form
  have hml := msgB_length ps2 t k wd xs
  rw [hxl.out] at hml
  rw [hml] at hown1 hi1 hc1 ⊢
  replace hb1 := hide hb1
  replace hbox := hide hbox
  replace hblk1 := hide hblk1
  replace hown1 := hide hown1
  replace hi1 := hide hi1
  replace hml := hide hml
  replace hbw1 := hide hbw1
  go_wp2_with fail
  refine (right_yes _ _ (.int .u32 (wd : Int)) A n1 c _ (by omega) (by omega) (wd : Int) rfl).mono ?_
  rintro e w2 ⟨rfl, hb2⟩
  have hz2 := hb2.size
  have hlt2 : w.heap.size < w2.heap.size := by omega
  have hblk2 := blk_below hb2 hlt1 hblk1.out
  have hcell2 := blk_cell hblk2
  have hbw2 : Below w.heap.size w w2 := hbw1.out.trans (hb2.mono (by omega))
  have hi2 := hi1.out.on hb2
  have hx2 := hx.out.on hbw2
  clear hcell1
  replace hb2 := hide hb2
  replace hblk2 := hide hblk2
  replace hbw2 := hide hbw2
  replace hi2 := hide hi2
  replace hx2 := hide hx2
  obtain ⟨W0, hW0⟩ : ∃ W0 : List UInt8, [UInt8.ofNat t, UInt8.ofNat k, 0, 0, UInt8.ofNat (wd / 16777216), UInt8.ofNat (wd / 65536), UInt8.ofNat (wd / 256), UInt8.ofNat wd] = W0 := ⟨_, rfl⟩
  have hW0l : W0.length = 8 := by rw [← hW0]; rfl
  have hW0v : [Value.int .u8 (t : Int), .int .u8 (k : Int), .int .u8 0, .int .u8 0, .int .u8 ((wd : Int) / 16777216), .int .u8 ((wd : Int) / 65536 % 256), .int .u8 ((wd : Int) / 256 % 256), .int .u8 ((wd : Int) % 256)] = W0.map u8v := by
    rw [← hW0]
    simp only [List.map_cons, List.map_nil, u8v_nat t ht, u8v_nat k hk, u8v_nat _ (show wd / 16777216 ≤ 255 by omega), ← u8v_mod]
    rfl
  have hW0h : W0 ++ xs = head0 t k wd xs := by rw [← hW0]; simp [head0, beB]
  have hown2 : OwnB (w2.alloc (.cells #[.int .u8 (t : Int), .int .u8 (k : Int), .int .u8 0, .int .u8 0, .int .u8 ((wd : Int) / 16777216), .int .u8 ((wd : Int) / 65536 % 256), .int .u8 ((wd : Int) / 256 % 256), .int .u8 ((wd : Int) % 256)] 5)) w2.heap.size (.slice (some ⟨w2.heap.size, 0, none⟩) 8 8) W0 :=
    OwnB.litv w2 w2.heap.size _ W0 8 hW0v hW0l (Nat.le_refl _) (by omega)
  replace hW0 := hide hW0
  replace hW0v := hide hW0v
  replace hW0h := hide hW0h
  replace hW0l := hide hW0l
  replace hown2 := hide hown2
  go_wp2_with (at_builtin; refine wpl_src_bv rfl (.tmp 86) (.tmp 88) rfl w2.heap.size _ W0 xs _ _ _ (w2.heap.size + 1) rfl rfl ?_ ?_ ?_ ?_ ?_)
  · exact hown2.out
  · exact (hx2.out.alloc _).more (by simp)
  · simp
  · rw [hW0l.out]; omega
  intro v3 w3 hown3 hg3
  rw [hW0h.out] at hown3
  have hb3' := hg3.below hown2.out (by simp)
  have hbw3 : Below w2.heap.size w2 w3 := ((Below.refl _ _).alloc (Nat.le_refl _) _).trans hb3'
  have hz3 := hb3'.size
  simp only [World.size_alloc] at hz3
  obtain ⟨A3, c3, rfl, hc3, hm3, hi3⟩ := hown3.form
  have hhl := head0_length t k wd xs
  rw [hxl.out] at hhl
  rw [hhl] at hown3 hi3 hc3 ⊢
  have hp3 := (hp2.out.on (hbw2.out.trans (hbw3.mono (by omega))))
  replace hhl := hide hhl
  replace hown3 := hide hown3
  replace hi3 := hide hi3
  replace hp3 := hide hp3
  replace hg3 := hide hg3
  replace hb3' := hide hb3'
  replace hbw3 := hide hbw3
  clear hcell2
  go_wp2_with (at_builtin; refine wpl_src_bv rfl (.tmp 90) (.tmp 91) rfl w3.heap.size _ [] ps2 _ _ _ (w3.heap.size + 1) rfl rfl ?_ ?_ ?_ ?_ ?_)
  · exact OwnB.emptyAt _ _ rfl _ (Nat.le_refl _)
  · exact (hp3.out.alloc _).more (by simp)
  · simp
  · simp; omega
  intro v4 w4 hown4 hg4
  have hb4' := hg4.below (OwnB.emptyAt w3 _ rfl _ (Nat.le_refl _)) (by simp)
  have hz4 := hb4'.size
  simp only [World.size_alloc] at hz4
  have hbw4 : Below w3.heap.size w3 w4 := ((Below.refl _ _).alloc (Nat.le_refl _) _).trans hb4'
  have hi4 := hi3.out.on hbw4
  replace hown4 := hide hown4
  replace hg4 := hide hg4
  replace hb4' := hide hb4'
  replace hbw4 := hide hbw4
  replace hi4 := hide hi4
  go_wp2_with (at_builtin; refine wpl_src_bv rfl (.tmp 92) (.tmp 93) rfl w3.heap.size _ ps2 (head0 t k wd xs) _ _ _ w4.heap.size rfl rfl ?_ ?_ ?_ ?_ ?_)
  · exact hown4.out
  · exact hi4.out
  · omega
  · rw [hpl.out]; omega
  intro v5 w5 hown5 hg5
  have hb5' := hg5.below hown4.out (by omega)
  have hz5 := hb5'.size
  obtain ⟨A5, c5, rfl, hc5, hm5, hi5⟩ := hown5.form
  obtain ⟨n5, hn5⟩ : ∃ nn, (ps2 ++ head0 t k wd xs).length = nn := ⟨_, rfl⟩
  have hn5b : n5 ≤ 1048576 := by rw [← hn5, List.length_append, hpl.out, hhl.out]; omega
  rw [hn5] at hi5 hc5 ⊢
  have hown53 : OwnB w5 w2.heap.size (.slice A3 (n1 + 8) c3) (head0 t k wd xs) := hown3.out.below (hbw4.out.trans hb5')
  replace hown5 := hide hown5
  replace hi5 := hide hi5
  replace hg5 := hide hg5
  replace hb5' := hide hb5'
  replace hn5 := hide hn5
  replace hown53 := hide hown53
  go_wp2_with fail
  refine (Sum.refCheck_any _ _ _ (ps2 ++ head0 t k wd xs) _ hi5.out hn5b).mono ?_
  rintro e w6 ⟨rfl, hb6⟩
  rw [hC.out]
  have hz6 := hb6.size
  have hown6 := hown53.out.below hb6
  have hi6 := hown6.reads.2.2.2
  obtain ⟨g3, cur, rfl, hg3b, hh3, hcl3, htk3, _, _, hl3⟩ := hown6.row (by omega)
  obtain ⟨_, _, _, hc62⟩ := hi6.byteAt (i := 2) (by omega)
  obtain ⟨_, _, _, hc63⟩ := hi6.byteAt (i := 3) (by omega)
  rw [Nat.zero_add] at hc62 hc63
  have hz62 := blk_free hh3 2
  have hz63 := blk_free hh3 3
  have i2 : (2 : Int) < ((n1 + 8 : Nat) : Int) := by omega
  have i3 : (3 : Int) < ((n1 + 8 : Nat) : Int) := by omega
  have hg3l : g3 < w6.heap.size := (Array.getElem?_eq_some_iff.1 hh3).1
  have hbw6 : Below w2.heap.size w2 w6 := ((hbw3.out.trans (hbw4.out.mono (by omega))).trans (hb5'.out.mono (by omega))).trans (hb6.mono (by omega))
  clear htk3
  replace hh3 := hide hh3
  replace hi6 := hide hi6
  replace hown6 := hide hown6
  replace hb6 := hide hb6
  replace hbw6 := hide hbw6
  replace hcl3 := hide hcl3
  replace hl3 := hide hl3
  go_wp2_with fail
  obtain ⟨w7, hw7⟩ : ∃ w7, (w6.setCell ⟨g3, 2, none⟩ (.int .u8 ((C : Int) / 256))).setCell ⟨g3, 3, none⟩ (.int .u8 ((C : Int) % 256)) = w7 := ⟨_, rfl⟩
  rw [hw7]
  have hown7 : OwnB w7 w2.heap.size (.slice (some ⟨g3, 0, none⟩) (n1 + 8) c3) (msgB ps2 t k wd xs) := by
    have h1 := (hown6.out.store 2 (UInt8.ofNat (C / 256))).store 3 (UInt8.ofNat C)
    rw [u8v_nat _ (show C / 256 ≤ 255 by omega), ← u8v_mod] at h1
    rw [← hw7, msgB_set, hC.out]
    exact h1
  have hbw7 : Below w2.heap.size w2 w7 := by rw [← hw7]; exact (hbw6.out.setCell (p := ⟨g3, 2, none⟩) hg3b _).setCell (p := ⟨g3, 3, none⟩) hg3b _
  have hz7 := hbw7.size
  have hi7 := hi2.out.on hbw7
  have hp7 := (hp2.out.on hbw2.out).on hbw7
  replace hown7 := hide hown7
  clear hw7 hc62 hc63 hz62 hz63
  replace hbw7 := hide hbw7
  replace hi7 := hide hi7
  replace hp7 := hide hp7
  refine (parse_ok A1 P2 (n1 + 8) c1 m2 d2 (msgB ps2 t k wd xs) ps2 _ hi7.out hp7.out (by omega) (by omega) (by omega) (by unfold maxLen; omega) (msgB_sum _ _ _ _ _ he.out)).mono ?_
  rintro e w8 ⟨A8, m8, c8, rfl, hi8, hmc8, hcm8, hb8⟩
  obtain ⟨q1, q2, q3, q4⟩ := msgB_get ps2 t k wd xs ht hk hwd
  have hmsg : msgV (msgB ps2 t k wd xs) A8 m8 c8 = .agg #[.int .i64 (t : Int), .int .i64 (k : Int), .int .u32 (wd : Int), .slice A8 m8 c8] := by
    unfold msgV
    rw [q1, q2, q3]
  rw [hmsg]
  rw [q4] at hi8
  clear q1 q2 q3 q4 hmsg
  have hz8 := hb8.size
  have hlt8 : w.heap.size < w8.heap.size := by omega
  have hblk8 := blk_below hb8 (by omega) (blk_below hbw7.out hlt2 hblk2.out)
  have hcell8 := blk_cell hblk8
  have hown8 := hown7.out.below hb8
  obtain ⟨w9, hw9⟩ : ∃ w9, w8.alloc (.cells #[.int .i64 (t : Int), .int .i64 (k : Int), .int .u32 (wd : Int), .slice A8 m8 c8] 39) = w9 := ⟨_, rfl⟩
  have hb9 : Below w8.heap.size w8 w9 := hw9 ▸ (Below.refl _ _).alloc (Nat.le_refl _) _
  have hs1 := ((hi7.out.on hb8).on hb9).str c1
  have hs3 := ((hown8.below hb9).reads.2.2.2).str c3
  have hz9 := hb9.size
  have hx9 := (((hx2.out.on hbw7.out).on hb8).on hb9)
  have hi9 := hi8.on hb9
  have hblk9 := blk_below hb9 hlt8 hblk8
  have hblk9' : w9.heap[w8.heap.size]? = some (.cells #[.int .i64 (t : Int), .int .i64 (k : Int), .int .u32 (wd : Int), .slice A8 m8 c8] 39 (0, 0)) := hw9 ▸ blk_new _ _ _
  have hcell9 := blk_cell hblk9
  have hcell9' := blk_cell hblk9'
  clear hcell8
  replace hblk8 := hide hblk8
  replace hblk9 := hide hblk9
  replace hblk9' := hide hblk9'
  replace hown8 := hide hown8
  replace hb8 := hide hb8
  replace hb9 := hide hb9
  replace hx9 := hide hx9
  replace hi9 := hide hi9
  replace hi8 := hide hi8
  go_wp2_with fail
  refine (same_eq _ _ _ _ _ _ _ _ _ xs _ hi9.out hx9.out).mono ?_
  rintro e w10 ⟨rfl, hb10⟩
  go_wp2_with fail
  refine (awake_any _).mono ?_
  rintro e w11 ⟨rfl, hb11⟩
  go_wp2_with fail
  go_ret
  have hz10 := hb10.size
  exact ⟨rfl, (((((hbw2.out.trans (hbw7.out.mono (by omega))).trans (hb8.out.mono (by omega))).trans (hb9.out.mono (by omega))).trans (hb10.mono (by omega))).trans (hb11.mono (by omega)))⟩
theorem puts_walk (t k wd : Int) (A : Option Addr) (n c : Nat) (xs : List UInt8) (P : Option Addr) (m d : Nat) (ps : List UInt8) (w : World) (ht : (Lit.int .i64 t).wf = true) (hk : (Lit.int .i64 k).wf = true) (hwd : (Lit.int .u32 wd).wf = true)
    (hx : IsB w w.heap.size A n xs) (hnc : n ≤ c) (hc : c ≤ maxLen) (hp : IsB w w.heap.size P m ps) (hmd : m ≤ d) (hd : d ≤ maxLen) :
    Calls Try.prog 7 #[.agg #[.int .i64 t, .int .i64 k, .int .u32 wd, .slice A n c], .slice P m d] w fun e w' => e = .returned (.bool true) ∧ Below w.heap.size w w' := by
  have hx' := hx.take (m := min n 300) (by omega)
  have hp' := hp.take (m := min m 300) (by omega)
  have hwd' := u32_wf hwd
  by_cases h : (0 ≤ t ∧ t ≤ 255) ∧ 0 ≤ k ∧ k ≤ 255
  · obtain ⟨⟨h1, h2⟩, h3, h4⟩ := h
    obtain ⟨t', rfl⟩ := Int.eq_ofNat_of_zero_le h1
    obtain ⟨k', rfl⟩ := Int.eq_ofNat_of_zero_le h3
    obtain ⟨wd', rfl⟩ := Int.eq_ofNat_of_zero_le hwd'.1
    by_cases hq : min m 300 % 2 = 0
    · exact puts_yes_even t' k' wd' A n c _ P m d _ _ _ w hx' hp' (by omega) (by omega) hnc hmd rfl rfl (by omega) (by omega) (by omega) (by omega) (by omega) hq
    · exact puts_yes_odd t' k' wd' A n c _ P m d _ _ _ w hx' hp' (by omega) (by omega) hnc hmd rfl rfl (by omega) (by omega) (by omega) (by omega) (by omega) (by omega)
  · by_cases hq : min m 300 % 2 = 0
    · exact puts_no_even t k wd A n c _ P m d _ _ _ w hx' hp' (by omega) (by omega) hnc hmd rfl rfl (by omega) h hq
    · exact puts_no_odd t k wd A n c _ P m d _ _ _ w hx' hp' (by omega) (by omega) hnc hmd rfl rfl (by omega) h (by omega)
end Icmp
end Go.Proofs.Ytniieckjooahfaa
