/- tcp.Right and tcp.Bytes by contract, for the headers that pkt.Segment makes. Conditions: slices of bytes that read as lists, below 2^30 bytes. -/
import Derived.Test.YtfmmmjaficbchaaQNatFlows6
import Derived.Test.YtfmmmjaficbchaaQNatFlows7
import Derived.Test.YtfmmmjaficbchaaQNatFlows3
import Derived.Test.YtfmmmjaficbchaaQNatFlows9
import Derived.Test.YtfmmmjaficbchaaQNatFlows10
import Derived.Deep.DeepCutAuto
import Derived.LoopN
namespace Go.Proofs.Ytfmmmjaficbchaa
open Go.RowKit Go.ChangeShapes Go.WideShapes Go.ChangeAt Go.Deep
namespace Tcp
/-- Whether a header may be. -/
def rightP (s d fl : Int) : Bool := decide (0 ≤ s ∧ s ≤ 65535 ∧ 0 ≤ d ∧ d ≤ 65535 ∧ 0 ≤ fl ∧ fl ≤ 255)
set_option maxRecDepth 8000 in
set_option maxHeartbeats 4000000 in
theorem right_any (s d fl : Int) (w : World) (r : Bool) (hr : rightP s d fl = r) :
    Calls Try.prog 73 #[hdV s d 0 0 fl 1024 0 none 0 0] w fun e w' => e = .returned (.bool r) ∧ Below w.heap.size w w' := by
  have hB : Below w.heap.size w (w.alloc (hdC s d 0 0 fl 1024 0 none 0 0)) := (Below.refl _ _).alloc (Nat.le_refl _) _
  have i0 : ∀ w : World, (Instr.index 134 (.agg #[.int .i64 s, .int .i64 d, .int .i64 1024, .int .i64 0]) (.int .i64 0)).run Try.prog w = .ok (.int .i64 s) w := fun _ => by kernel_rfl
  have i1 : ∀ w : World, (Instr.index 134 (.agg #[.int .i64 s, .int .i64 d, .int .i64 1024, .int .i64 0]) (.int .i64 1)).run Try.prog w = .ok (.int .i64 d) w := fun _ => by kernel_rfl
  have i2 : ∀ w : World, (Instr.index 134 (.agg #[.int .i64 s, .int .i64 d, .int .i64 1024, .int .i64 0]) (.int .i64 2)).run Try.prog w = .ok (.int .i64 1024) w := fun _ => by kernel_rfl
  have i3 : ∀ w : World, (Instr.index 134 (.agg #[.int .i64 s, .int .i64 d, .int .i64 1024, .int .i64 0]) (.int .i64 3)).run Try.prog w = .ok (.int .i64 0) w := fun _ => by kernel_rfl
  unfold rightP at hr
  unfold hdC at hB
  unfold hdV
  by_cases h : 0 ≤ s ∧ s ≤ 65535 ∧ 0 ≤ d ∧ d ≤ 65535 ∧ 0 ≤ fl ∧ fl ≤ 255
  · obtain rfl : r = true := by rw [← hr, decide_eq_true h]
    obtain ⟨h1, h2, h3, h4, h5, h6⟩ := h
    replace hB := hide hB
    clear hr
    go_enter Try.func73, Try.ntmps73
    go_wp2_with fail
    refine wp_loop_rounds 5 ?_
    iterate 5 (rw [rounds_succ]; go_wp2_with fail)
    go_ret
    exact ⟨rfl, hB.out⟩
  obtain rfl : r = false := by rw [← hr, decide_eq_false h]
  clear hr
  by_cases h1 : 0 ≤ s ∧ s ≤ 65535
  case neg =>
    have g : ((decide (s < 0)) || decide (65535 < s)) = true := by simp; omega
    by_cases h2 : s < 0
    · clear h1 h g
      replace hB := hide hB
      go_enter Try.func73, Try.ntmps73
      go_wp2_with fail
      refine wp_loop_rounds 5 ?_
      rw [rounds_succ]
      go_wp2_with fail
      go_ret
      exact ⟨rfl, hB.out⟩
    · have h3 : 65535 < s := by omega
      clear h1 h g
      replace hB := hide hB
      go_enter Try.func73, Try.ntmps73
      go_wp2_with fail
      refine wp_loop_rounds 5 ?_
      rw [rounds_succ]
      go_wp2_with fail
      go_ret
      exact ⟨rfl, hB.out⟩
  obtain ⟨a1, a2⟩ := h1
  by_cases h1 : 0 ≤ d ∧ d ≤ 65535
  case neg =>
    by_cases h2 : d < 0
    · clear h1 h
      replace hB := hide hB
      go_enter Try.func73, Try.ntmps73
      go_wp2_with fail
      refine wp_loop_rounds 5 ?_
      iterate 2 (rw [rounds_succ]; go_wp2_with fail)
      go_ret
      exact ⟨rfl, hB.out⟩
    · have h3 : 65535 < d := by omega
      clear h1 h
      replace hB := hide hB
      go_enter Try.func73, Try.ntmps73
      go_wp2_with fail
      refine wp_loop_rounds 5 ?_
      iterate 2 (rw [rounds_succ]; go_wp2_with fail)
      go_ret
      exact ⟨rfl, hB.out⟩
  obtain ⟨b1, b2⟩ := h1
  by_cases h5 : 0 ≤ fl
  · have h6 : 255 < fl := by omega
    clear h
    replace hB := hide hB
    go_enter Try.func73, Try.ntmps73
    go_wp2_with fail
    refine wp_loop_rounds 5 ?_
    iterate 5 (rw [rounds_succ]; go_wp2_with fail)
    go_ret
    exact ⟨rfl, hB.out⟩
  · clear h
    replace hB := hide hB
    go_enter Try.func73, Try.ntmps73
    go_wp2_with fail
    refine wp_loop_rounds 5 ?_
    iterate 5 (rw [rounds_succ]; go_wp2_with fail)
    go_ret
    exact ⟨rfl, hB.out⟩
theorem bytes_no (s d fl : Int) (A : Option Addr) (n c : Nat) (P : Option Addr) (m e : Nat) (w : World) (h : rightP s d fl = false) :
    Calls Try.prog 44 #[hdV s d 0 0 fl 1024 0 none 0 0, .slice A n c, .slice P m e] w fun e w' => e = .returned (.tuple #[.slice none 0 0, .int .i64 1]) ∧ Below w.heap.size w w' := by
  unfold hdV
  go_enter Try.func44, Try.ntmps44
  go_wp2_with fail
  refine (right_any s d fl _ false h).mono ?_
  rintro e w1 ⟨rfl, hb⟩
  go_wp2_with fail
  go_ret2
  exact ⟨rfl, ((Below.refl _ _).alloc (Nat.le_refl _) _).trans (hb.mono (by simp))⟩
/-- A segment's bytes, the check's two still 0. -/
def sg0 (s d fl : Nat) (xs : List UInt8) : List UInt8 := (((allB 2 [s, d] ++ allB 4 [0, 0]) ++ [80, UInt8.ofNat fl]) ++ allB 2 [1024, 0, 0]) ++ xs
def sgB (ps : List UInt8) (s d fl : Nat) (xs : List UInt8) : List UInt8 := setB (sg0 s d fl xs) 16 (beB (65535 - Sum.ones (Sum.tot false (ps ++ sg0 s d fl xs))) 2)
theorem sg0_length (s d fl : Nat) (xs : List UInt8) : (sg0 s d fl xs).length = 20 + xs.length := by simp [sg0, allB_length]; omega
set_option maxRecDepth 8000 in
set_option maxHeartbeats 4000000 in
theorem bytes_yes (s d fl : Nat) (A : Option Addr) (n c : Nat) (P : Option Addr) (m e : Nat) (xs ps : List UInt8) (w : World) (hs : s ≤ 65535) (hd : d ≤ 65535) (hfl : fl ≤ 255) (hx : IsB w w.heap.size A n xs) (hp : IsB w w.heap.size P m ps) (hn : n ≤ 1073741824) (hm : m ≤ maxLen) :
    Calls Try.prog 44 #[hdV s d 0 0 fl 1024 0 none 0 0, .slice A n c, .slice P m e] w fun e w' => ∃ v, e = .returned (.tuple #[v, .int .i64 0]) ∧ OwnB w' w.heap.size v (sgB ps s d fl xs) ∧ Below w.heap.size w w' := by
  have hxl := hx.1
  have hR : rightP (s : Int) (d : Int) (fl : Int) = true := by unfold rightP; rw [decide_eq_true_eq]; omega
  have hnew := blk_new w 88 #[.int .i64 s, .int .i64 d, .int .u32 0, .int .u32 0, .int .i64 fl, .int .i64 1024, .int .i64 0, .slice none 0 0]
  replace hx := hide hx
  replace hp := hide hp
  replace hxl := hide hxl
  replace hR := hide hR
  replace hnew := hide hnew
  unfold hdV
  go_enter Try.func44, Try.ntmps44
  go_wp2_with fail
  refine (right_any s d fl _ true hR.out).mono ?_
  rintro e w1 ⟨rfl, hb1⟩
  have hblk1 := blk_below hb1 (by simp) hnew.out
  have hbw1 : Below w.heap.size w w1 := ((Below.refl _ _).alloc (Nat.le_refl _) _).trans (hb1.mono (by simp))
  have hz1 := hb1.size
  simp only [World.size_alloc] at hz1
  have hlt1 : w.heap.size < w1.heap.size := by omega
  have hcell1 := blk_cell hblk1
  clear hnew
  replace hb1 := hide hb1
  replace hbw1 := hide hbw1
  replace hblk1 := hide hblk1
  go_wp2_with fail
  refine (all_lit w1.heap.size _ [] 2 _ rfl [s, d] _ ?_ 2 _ rfl _ w1 _ rfl (OwnB.nil _ _) (Nat.le_refl _) (by omega) (by simp) (by omega) ?_).mono ?_
  · simp [u64v]
  · intro N hN
    simp only [List.mem_cons, List.not_mem_nil, or_false] at hN
    omega
  rintro e w2 ⟨v2, rfl, hown2, hg2⟩
  rw [List.nil_append] at hown2
  have hb2 := hg2.below (OwnB.nil _ _) (Nat.le_refl _)
  have hz2 := hb2.size
  have hblk2 := blk_below hb2 hlt1 hblk1.out
  have hcell2 := blk_cell hblk2
  clear hcell1 hg2
  replace hown2 := hide hown2
  replace hb2 := hide hb2
  replace hblk2 := hide hblk2
  go_wp2_with fail
  refine (all_lit w1.heap.size _ _ 4 _ rfl [0, 0] _ ?_ 2 _ rfl _ w2 _ rfl hown2.out hz2 (by omega) (by simp [allB_length]) (by omega) ?_).mono ?_
  · simp [u64v]
  · intro N hN
    simp only [List.mem_cons, List.not_mem_nil, or_false] at hN
    omega
  rintro e w3 ⟨v3, rfl, hown3, hg3⟩
  have hb3 := hb2.out.trans (hg3.below hown2.out hz2)
  have hz3 := hb3.size
  have hblk3 := blk_below hb3 hlt1 hblk1.out
  have hcell3 := blk_cell hblk3
  clear hcell2 hg3
  have hv4 : [Value.int .u8 80, Value.int .u8 (fl : Int)] = ([80, UInt8.ofNat fl] : List UInt8).map u8v := by
    simp only [List.map_cons, List.map_nil]
    rw [u8v_nat _ hfl]
    rfl
  replace hown3 := hide hown3
  replace hb3 := hide hb3
  replace hblk3 := hide hblk3
  replace hv4 := hide hv4
  go_wp2_with (at_builtin; refine wpl_lit_bv rfl (.tmp 29) (.tmp 40) rfl w1.heap.size _ _ [80, UInt8.ofNat fl] _ _ rfl rfl ?_ ?_ hown3.out ?_ ?_ ?_)
  · exact hv4.out
  · rfl
  · exact hz3
  · simp [allB_length]
  intro v4 w4 hown4 hg4
  have hb4 := hb3.out.trans (hg4.below hown3.out hz3)
  have hz4 := hb4.size
  have hblk4 := blk_below hb4 hlt1 hblk1.out
  have hcell4 := blk_cell hblk4
  clear hcell3 hg4
  replace hown4 := hide hown4
  replace hb4 := hide hb4
  replace hblk4 := hide hblk4
  go_wp2_with fail
  refine (all_lit w1.heap.size _ _ 2 _ rfl [1024, 0, 0] _ ?_ 3 _ rfl _ w4 _ rfl hown4.out hz4 (by omega) (by simp [allB_length]) (by omega) ?_).mono ?_
  · simp [u64v]
  · intro N hN
    simp only [List.mem_cons, List.not_mem_nil, or_false] at hN
    omega
  rintro e w5 ⟨v5, rfl, hown5, hg5⟩
  have hb5 := hb4.out.trans (hg5.below hown4.out hz4)
  have hz5 := hb5.size
  have hblk5 := blk_below hb5 hlt1 hblk1.out
  have hcell5 := blk_cell hblk5
  have hx5 := (hx.out.on hbw1.out).on hb5
  clear hcell4 hg5
  replace hown5 := hide hown5
  replace hb5 := hide hb5
  replace hblk5 := hide hblk5
  replace hx5 := hide hx5
  go_wp2_with (at_builtin; refine wpl_src_bv rfl (.tmp 51) (.tmp 53) rfl w1.heap.size _ _ [] _ _ _ w5.heap.size rfl rfl hown5.out (IsB.nil _ _ _) ?_ ?_ ?_)
  · exact hz5
  · simp [allB_length]
  intro v6 w6 hown6 hg6
  have hb6 := hb5.out.trans (hg6.below hown5.out hz5)
  have hz6 := hb6.size
  have hblk6 := blk_below hb6 hlt1 hblk1.out
  have hcell6 := blk_cell hblk6
  have hx6 := (hx.out.on hbw1.out).on hb6
  clear hcell5 hg6
  replace hown6 := hide hown6
  replace hb6 := hide hb6
  replace hblk6 := hide hblk6
  replace hx6 := hide hx6
  go_wp2_with (at_builtin; refine wpl_src_bv rfl (.tmp 54) (.tmp 55) rfl w1.heap.size _ _ xs _ _ _ w6.heap.size rfl rfl hown6.out hx6.out ?_ ?_ ?_)
  · exact hz6
  · simp [allB_length]; omega
  intro v7 w7 hown7 hg7
  have hb7 := hb6.out.trans (hg7.below hown6.out hz6)
  have hz7 := hb7.size
  have hown7' : OwnB w7 w1.heap.size v7 (sg0 s d fl xs) := by
    unfold sg0
    simpa using hown7
  clear hown7
  obtain ⟨A3, c3, rfl, hc3, hm3, hi3⟩ := hown7'.form
  rw [sg0_length, hxl.out] at hc3 hi3 hown7' ⊢
  have hbw7 : Below w.heap.size w w7 := hbw1.out.trans (hb7.mono (by omega))
  have hp7 := hp.out.on hbw7
  have hps := Icmp.isP_two' w7.heap.size rfl (t := 22) (c := c3) (d := e) hi3 hp7 (by unfold maxLen; omega) hm
  have hi4 := hi3.alloc (.cells #[.slice P m e, .slice A3 (20 + n) c3] 22)
  have hle := Sum.ones_le (Sum.tot false (ps ++ sg0 s d fl xs))
  have hflat : Sum.flat [⟨P, e, ps⟩, ⟨A3, c3, sg0 s d fl xs⟩] = ps ++ sg0 s d fl xs := by simp [Sum.flat]
  obtain ⟨T, hT⟩ : ∃ T, 65535 - Sum.ones (Sum.tot false (ps ++ sg0 s d fl xs)) = T := ⟨_, rfl⟩
  have hT' := hT
  rw [← hflat] at hT
  have hTl : T ≤ 65535 := by omega
  clear hcell6 hle hg7
  replace hps := hide hps
  replace hi3 := hide hi3
  replace hi4 := hide hi4
  replace hown7' := hide hown7'
  replace hbw7 := hide hbw7
  replace hp7 := hide hp7
  replace hflat := hide hflat
  replace hT := hide hT
  replace hT' := hide hT'
  replace hb7 := hide hb7
  go_wp2_with fail
  refine (Sum.check_any _ _ _ _ _ hps.out (by unfold maxLen; omega)).mono ?_
  rintro e w' ⟨rfl, rfl⟩
  rw [hT.out]
  go_wp2_with fail
  refine (set_in A3 (20 + n) c3 (sg0 s d fl xs) 16 T 2 _ _ _ rfl rfl rfl _ hi4.out (by omega) (by omega) (by omega) (by omega) (by omega)).mono ?_
  rintro e w8 ⟨v8, rfl, hown8, hb8⟩
  have hfin : OwnB w8 w.heap.size v8 (sgB ps s d fl xs) := by
    have h1 := hown8.weaken (base' := w.heap.size) (by simp; omega)
    unfold sgB
    rw [hT'.out]
    exact h1
  have hb9 := (hbw7.out.alloc (by omega) (.cells #[.slice P m e, .slice A3 (20 + n) c3] 22)).trans (hb8.mono (by simp; omega))
  clear hb8 hown8
  replace hfin := hide hfin
  replace hb9 := hide hb9
  go_wp2_with fail
  go_ret2
  exact ⟨v8, rfl, hfin.out, hb9.out⟩
end Tcp
end Go.Proofs.Ytfmmmjaficbchaa
/- pkt.Packet's quote, by contract: a message of an error. Conditions: a packet of 23 cells, slices of bytes that read as lists. -/
namespace Go.Proofs.Ytfmmmjaficbchaa
open Go.RowKit Go.ChangeShapes Go.WideShapes Go.ChangeAt Go.Deep
namespace Pkt
/-- What goes ahead of a message in its check. -/
def aheadP (v6 : Bool) (ps : List UInt8) : List UInt8 := if v6 = true then ps else []
/-- The packet of an error about a flow. -/
def errA (cs ab : Array Value) : Array Value := putA (cs.setIfInBounds 12 (.bool true)) 13 ab.toList
def QuoteEnd (K1 K2 : Nat) (y : Value) (w w' : World) (e : Ending) : Prop :=
  ((K1 ≠ 0 → e = .returned (.tuple #[.agg pkZ, .int .i64 (K1 : Int)])) ∧ (K1 = 0 → K2 ≠ 0 → e = .returned (.tuple #[.agg pkZ, .int .i64 (K2 : Int)])) ∧ (K1 = 0 → K2 = 0 → e = .returned (.tuple #[y, .int .i64 0]))) ∧ Below w.heap.size w w'
/-- Two blocks, new. -/
theorem made_two (w : World) (a b : Array Value) (t u : TypeId) : ∃ w', (w.alloc (.cells a t)).alloc (.cells b u) = w' ∧ Below w.heap.size w w' ∧ w'.heap[w.heap.size]? = some (.cells a t (0, 0)) ∧ w'.heap[w.heap.size + 1]? = some (.cells b u (0, 0)) ∧ w.heap.size + 2 ≤ w'.heap.size :=
  ⟨_, rfl, ((Below.refl _ _).alloc (Nat.le_refl _) _).alloc (by simp) _, blk_old _ (by simp) (blk_new _ _ _), by simpa using blk_new (w.alloc (.cells a t)) u b, by simp⟩
set_option maxRecDepth 20000 in
set_option maxHeartbeats 16000000 in
theorem quote_any (cs : Array Value) (hcs : cs.size = 23) (hone : cs.all (·.oneCell') = true) (v6 : Bool) (h0 : cs[0]? = some (.bool v6)) (A P : Option Addr) (c d : Nat) (xs ps : List UInt8) (w : World)
    (hx : IsB w w.heap.size A xs.length xs) (hp : IsB w w.heap.size P ps.length ps) (hc : xs.length ≤ c) (hcm : c ≤ maxLen)
    (K1 : Nat) (ty cd wd : Int) (ds : List UInt8) (hP : Icmp.ParseIs xs (aheadP v6 ps) K1 ty cd wd ds) (K2 : Nat) (pr : Int) (sv : Bool) (sh sl : Int) (dv : Bool) (dh dl sp dp : Int) (hQ : Icmp.QuotedIs v6 ty ds K2 pr sv sh sl dv dh dl sp dp) :
    Calls Try.prog 86 #[.agg cs, .slice A xs.length c, .slice P ps.length d] w fun e w' => QuoteEnd K1 K2 (.agg (errA cs (tuA pr dv dh dl sv sh sl dp sp))) w w' e := by
  obtain ⟨ps', hps'⟩ : ∃ ps', aheadP v6 ps = ps' := ⟨_, rfl⟩
  rw [hps'] at hP
  obtain ⟨P', d', hp', hv1, hv0⟩ : ∃ P' d', IsB w w.heap.size P' ps'.length ps' ∧ (v6 = true → P' = P ∧ d' = d ∧ ps'.length = ps.length) ∧ (v6 = false → P' = none ∧ d' = 0 ∧ ps'.length = 0) := by
    subst hps'
    unfold aheadP
    rcases v6 with _ | _
    · exact ⟨none, 0, IsB.nil _ _ _, (fun h => by cases h), fun _ => ⟨rfl, rfl, rfl⟩⟩
    · exact ⟨P, d, hp, (fun _ => ⟨rfl, rfl, rfl⟩), fun h => by cases h⟩
  obtain ⟨n, hn⟩ : ∃ n, xs.length = n := ⟨_, rfl⟩
  obtain ⟨zs, hzs⟩ : ∃ zs, pkZ = zs := ⟨_, rfl⟩
  obtain ⟨w2, hw2, hb2, hg0, hg1, hz2⟩ := made_two w cs pkZ 34 34
  unfold pkZ at hw2
  rw [hzs] at hg1
  have hzz : zs.size = 23 := hzs ▸ pkZ_size
  have hzo : zs.all (·.oneCell') = true := hzs ▸ pkZ_one
  have hPc := hP A P' c d' w2 (hx.on hb2) (hp'.on hb2) hc hcm
  have hcg := (blk_cell hg0 0).trans h0
  rw [hn] at hPc ⊢
  replace hx := hide hx
  replace hp := hide hp
  replace hp' := hide hp'
  replace hg0 := hide hg0
  replace hg1 := hide hg1
  replace hb2 := hide hb2
  replace hPc := hide hPc
  replace hP := hide hP
  replace hQ := hide hQ
  replace hps' := hide hps'
  replace hone := hide hone
  replace hzs := hide hzs
  replace hzo := hide hzo
  replace h0 := hide h0
  go_enter Try.func86, Try.ntmps86
  go_upto_if 13 with fail
  clear hw2
  go_cut [2] (fun pv wx => pv = .slice P' ps'.length d' ∧ w2 = wx)
  case first =>
    rcases v6 with _ | _
    · obtain ⟨rfl, rfl, h3⟩ := hv0 rfl
      clear hv0 hv1
      go_wp2_with fail
      go_meet
      exact ⟨by rw [h3], rfl⟩
    · obtain ⟨rfl, rfl, h3⟩ := hv1 rfl
      clear hv0 hv1
      go_wp2_with fail
      go_meet
      exact ⟨by rw [h3], rfl⟩
  case rest =>
  obtain ⟨rfl, rfl⟩ := hcut
  clear hv0 hv1 hcg
  go_wp2_with fail
  refine hPc.out.mono ?_
  rintro e w3 ⟨A3, c3, rfl, hi3, hc3, hm3, hb3⟩
  obtain ⟨w4, hw4⟩ : ∃ w4, w3.alloc (.cells #[.int .i64 ty, .int .i64 cd, .int .u32 wd, .slice A3 ds.length c3] 138) = w4 := ⟨_, rfl⟩
  have z3 := hb3.size
  have hb34 : Below w3.heap.size w3 w4 := hw4 ▸ (Below.refl _ _).alloc (Nat.le_refl _) _
  have hgm : w4.heap[w3.heap.size]? = some (.cells #[.int .i64 ty, .int .i64 cd, .int .u32 wd, .slice A3 ds.length c3] 138 (0, 0)) := hw4 ▸ blk_new _ _ _
  have hz4 : w3.heap.size < w4.heap.size := by rw [← hw4]; simp
  have hB4 := (hb2.out.trans (hb3.mono (by omega))).trans (hb34.mono (by omega))
  have hg04 := blk_below hb34 (by omega) (blk_below hb3 (by omega) hg0.out)
  have hg14 := blk_below hb34 (by omega) (blk_below hb3 (by omega) hg1.out)
  have hi4 := hi3.on hb34
  clear hb3 hb34 hi3
  by_cases hK1 : K1 = 0
  case neg =>
    have t1 : ((K1 : Int) == 0) = false := by rw [beq_eq_false_iff_ne]; omega
    replace hgm := hide hgm
    replace hg04 := hide hg04
    replace hg14 := hide hg14
    replace hi4 := hide hi4
    replace hB4 := hide hB4
    go_upto_region 5 with fail
    clear hw4
    apply wp_region_lit
    refine wpList_plain rfl fun K hK => ?_
    go_simp
    refine hK _ _ ?_
    clear hK K
    refine wpList_plain rfl fun K hK => ?_
    go_simp
    refine hK _ _ ?_
    clear hK K
    refine wpl_st rfl 34 (.tmp 6) (.tmp 22) rfl (w.heap.size + 1) 0 rfl pkZ rfl hg14.out (by rw [hzz, pkZ_size]; omega) size_pk pkZ_one fun w9 hg9 g9 => ?_
    rw [putA_whole _ _ (by rw [hzz, pkZ_size])] at hg9
    have hB9 := hB4.out.trans (below_grown g9 (by omega) (by omega))
    have hld : (loadVar 34 ⟨w.heap.size + 1, 0, none⟩).run Try.prog w9 = .ok (.agg pkZ) w9 := by
      simpa using run_loadVar_mid w9 (w.heap.size + 1) 0 34 pkZ.toList _ (blk_range hg9) Try.underlying34 rfl (by rw [size_pk]; rfl)
    have hfin : QuoteEnd K1 K2 (.agg (errA cs (tuA pr dv dh dl sv sh sl dp sp))) w w9 (.returned (.tuple #[.agg pkZ, .int .i64 (K1 : Int)])) := ⟨⟨fun _ => rfl, fun h => absurd h hK1, fun h => absurd h hK1⟩, hB9⟩
    clear g9
    replace hg9 := hide hg9
    replace hB9 := hide hB9
    replace hfin := hide hfin
    replace hld := hide hld
    refine wpList_plain rfl fun K hK => ?_
    go_simp
    refine hK _ _ ?_
    clear hK K
    refine wpList_nil ?_
    go_wp2_with fail
    exact bodyPost_ret (v := .tuple #[.agg pkZ, .int .i64 (K1 : Int)]) (by simp [results, Try.results86, asAddr, hld.out, Result.andThen]) rfl hfin.out
  subst hK1
  have hcm4 := blk_cell hgm
  have hc04 := (blk_cell hg04 0).trans h0.out
  have hQc := hQ.out cd wd A3 c3 w4 hi4 hc3 hm3
  replace hgm := hide hgm
  replace hg04 := hide hg04
  replace hg14 := hide hg14
  replace hi4 := hide hi4
  replace hB4 := hide hB4
  replace hQc := hide hQc
  go_wp2_with fail
  refine hQc.out.mono ?_
  rintro e w5 ⟨rfl, hb5⟩
  clear hw4 hcm4 hc04
  obtain ⟨w6, hw6⟩ : ∃ w6, w5.alloc (.cells #[.int .i64 pr, .bool sv, .int .u64 sh, .int .u64 sl, .bool dv, .int .u64 dh, .int .u64 dl, .int .i64 sp, .int .i64 dp] 32) = w6 := ⟨_, rfl⟩
  have z5 := hb5.size
  have hb56 : Below w5.heap.size w5 w6 := hw6 ▸ (Below.refl _ _).alloc (Nat.le_refl _) _
  have hgt : w6.heap[w5.heap.size]? = some (.cells #[.int .i64 pr, .bool sv, .int .u64 sh, .int .u64 sl, .bool dv, .int .u64 dh, .int .u64 dl, .int .i64 sp, .int .i64 dp] 32 (0, 0)) := hw6 ▸ blk_new _ _ _
  have hz6 : w5.heap.size < w6.heap.size := by rw [← hw6]; simp
  have hB6 := (hB4.out.trans (hb5.mono (by omega))).trans (hb56.mono (by omega))
  have hg06 := blk_below hb56 (by omega) (blk_below hb5 (by omega) hg04.out)
  have hg16 := blk_below hb56 (by omega) (blk_below hb5 (by omega) hg14.out)
  clear hb5 hb56
  by_cases hK2 : K2 = 0
  case neg =>
    have t1 : ((K2 : Int) == 0) = false := by rw [beq_eq_false_iff_ne]; omega
    replace hgt := hide hgt
    replace hg06 := hide hg06
    replace hg16 := hide hg16
    replace hB6 := hide hB6
    go_upto_region 8 with fail
    clear hw6
    apply wp_region_lit
    refine wpList_plain rfl fun K hK => ?_
    go_simp
    refine hK _ _ ?_
    clear hK K
    refine wpList_plain rfl fun K hK => ?_
    go_simp
    refine hK _ _ ?_
    clear hK K
    refine wpl_st rfl 34 (.tmp 6) (.tmp 33) rfl (w.heap.size + 1) 0 rfl pkZ rfl hg16.out (by rw [hzz, pkZ_size]; omega) size_pk pkZ_one fun w9 hg9 g9 => ?_
    rw [putA_whole _ _ (by rw [hzz, pkZ_size])] at hg9
    have hB9 := hB6.out.trans (below_grown g9 (by omega) (by omega))
    have hld : (loadVar 34 ⟨w.heap.size + 1, 0, none⟩).run Try.prog w9 = .ok (.agg pkZ) w9 := by
      simpa using run_loadVar_mid w9 (w.heap.size + 1) 0 34 pkZ.toList _ (blk_range hg9) Try.underlying34 rfl (by rw [size_pk]; rfl)
    have hfin : QuoteEnd 0 K2 (.agg (errA cs (tuA pr dv dh dl sv sh sl dp sp))) w w9 (.returned (.tuple #[.agg pkZ, .int .i64 (K2 : Int)])) := ⟨⟨fun h => absurd rfl h, fun _ _ => rfl, fun _ h => absurd h hK2⟩, hB9⟩
    clear g9
    replace hg9 := hide hg9
    replace hB9 := hide hB9
    replace hfin := hide hfin
    replace hld := hide hld
    refine wpList_plain rfl fun K hK => ?_
    go_simp
    refine hK _ _ ?_
    clear hK K
    refine wpList_nil ?_
    go_wp2_with fail
    exact bodyPost_ret (v := .tuple #[.agg pkZ, .int .i64 (K2 : Int)]) (by simp [results, Try.results86, asAddr, hld.out, Result.andThen]) rfl hfin.out
  subst hK2
  have hBk := Icmp.back_of pr sp dp sv dv sh sl dh dl w6
  have hct := blk_cell hgt
  replace hgt := hide hgt
  replace hg06 := hide hg06
  replace hg16 := hide hg16
  replace hB6 := hide hB6
  replace hBk := hide hBk
  go_wp2_with fail
  refine hBk.out.mono ?_
  rintro e w7 ⟨rfl, hb7⟩
  clear hw6 hct
  have z7 := hb7.size
  have hB7 := hB6.out.trans (hb7.mono (by omega))
  have hg07 := blk_below hb7 (by omega) hg06.out
  have hg17 := blk_below hb7 (by omega) hg16.out
  clear hb7
  have hc12 : ∃ x, cs[12]? = some x := ⟨_, Array.getElem?_eq_getElem (by omega)⟩
  obtain ⟨x12, hx12⟩ := hc12
  have hcl := (blk_cell hg07 12).trans hx12
  have hfr := blk_free hg07 12
  obtain ⟨w8, e8, hg08, g8⟩ := store_cell hg07 12 (.bool true)
  have z8 := g8.size
  have hB8 := hB7.trans (below_grown g8 (by omega) (by omega))
  have hg18 := grown_other g8 (by omega) (by omega) hg17
  clear g8 hx12
  replace hg07 := hide hg07
  replace hg17 := hide hg17
  replace hg08 := hide hg08
  replace hg18 := hide hg18
  replace hB7 := hide hB7
  replace hB8 := hide hB8
  dsimp only
  rename_i hK0
  refine hK0 _ _ ?_
  clear hK0
  refine wpList_plain rfl fun K hK => ?_
  go_simp
  refine hK _ _ ?_
  clear hK K
  refine wpList_plain rfl fun K hK => ?_
  go_simp
  refine hK _ _ ?_
  clear hK K
  refine wpList_plain rfl fun K hK => ?_
  go_simp
  refine hK _ _ ?_
  clear hK K
  clear hcl hfr e8
  refine wpl_st rfl 32 (.tmp 38) (.tmp 36) rfl w.heap.size 13 rfl (tuA pr dv dh dl sv sh sl dp sp) rfl hg08.out (by rw [Array.size_setIfInBounds, hcs]; exact (show 13 + 9 ≤ 23 by omega)) size_tu (tuA_one _ _ _ _ _ _ _ _ _) fun w9 hg9 g9 => ?_
  have z9 := g9.size
  have hg19 := grown_other g9 (by omega) (by omega) hg18.out
  have hB9 := hB8.out.trans (below_grown g9 (by omega) (by omega))
  obtain ⟨cs2, hcs2⟩ : ∃ cs2, putA (cs.setIfInBounds 12 (.bool true)) 13 (tuA pr dv dh dl sv sh sl dp sp).toList = cs2 := ⟨_, rfl⟩
  have hs2 : cs2.size = 23 := by
    rw [← hcs2, putA_size _ _ _ (by rw [Array.size_setIfInBounds, hcs]; exact (show 13 + 9 ≤ 23 by omega)), Array.size_setIfInBounds, hcs]
  have ho2 : cs2.all (·.oneCell') = true := by
    rw [← hcs2]
    refine all_put ?_ ?_
    · refine Array.all_eq_true_iff_forall_mem.2 fun v hv => ?_
      rcases Array.mem_or_eq_of_mem_setIfInBounds hv with h | h
      · exact Array.all_eq_true_iff_forall_mem.1 hone.out v h
      · rw [h]; rfl
    · have := tuA_one pr dv dh dl sv sh sl dp sp
      simpa using this
  rw [hcs2] at hg9
  clear g9
  replace hg9 := hide hg9
  replace hg19 := hide hg19
  replace hB9 := hide hB9
  replace hcs2 := hide hcs2
  replace ho2 := hide ho2
  refine wpList_nil ?_
  go_upto_region 10 with fail
  apply wp_region_lit
  refine wpl_ld rfl 34 (.tmp 3) rfl w.heap.size rfl cs2 _ hg9.out Try.underlying34 rfl (by rw [size_pk, hs2]) ?_
  refine wpl_st rfl 34 (.tmp 6) (.tmp 39) rfl (w.heap.size + 1) 0 rfl cs2 rfl hg19.out (by rw [hzz, hs2]; omega) (by rw [size_pk, hs2]) ho2.out fun w10 hg10 g10 => ?_
  rw [putA_whole _ _ (by rw [hzz, hs2])] at hg10
  have hB10 := hB9.out.trans (below_grown g10 (by omega) (by omega))
  have hld : (loadVar 34 ⟨w.heap.size + 1, 0, none⟩).run Try.prog w10 = .ok (.agg cs2) w10 := by
    simpa using run_loadVar_mid w10 (w.heap.size + 1) 0 34 cs2.toList _ (blk_range hg10) Try.underlying34 rfl (by rw [size_pk, Array.length_toList, hs2])
  have hfin : QuoteEnd 0 0 (.agg (errA cs (tuA pr dv dh dl sv sh sl dp sp))) w w10 (.returned (.tuple #[.agg cs2, .int .i64 0])) := ⟨⟨fun h => absurd rfl h, fun _ h => absurd rfl h, fun _ _ => by unfold errA; rw [hcs2.out]⟩, hB10⟩
  clear g10
  replace hg10 := hide hg10
  replace hB10 := hide hB10
  replace hfin := hide hfin
  replace hld := hide hld
  refine wpList_plain rfl fun K hK => ?_
  go_simp
  refine hK _ _ ?_
  clear hK K
  refine wpList_nil ?_
  go_wp2_with fail
  exact bodyPost_ret (v := .tuple #[.agg cs2, .int .i64 0]) (by simp [results, Try.results86, asAddr, hld.out, Result.andThen]) rfl hfin.out
end Pkt
end Go.Proofs.Ytfmmmjaficbchaa
/- pkt.Packet's upper, by contract: what is behind a packet's header. Conditions: a packet of 23 cells, slices of bytes that read as lists. -/
namespace Go.Proofs.Ytfmmmjaficbchaa
open Go.RowKit Go.ChangeShapes Go.WideShapes Go.ChangeAt Go.Deep
namespace Pkt
/-- How a packet is told: why it is none, or what it is. -/
def End2 (K : Nat) (y : Array Value) (w w' : World) (e : Ending) : Prop := e = .returned (.tuple #[.agg (if K = 0 then y else pkZ), .int .i64 (K : Int)]) ∧ Below w.heap.size w w'
theorem end_bad {y : Array Value} (K : Nat) (hK : K ≠ 0) {w w' : World} (hb : Below w.heap.size w w') : End2 K y w w' (.returned (.tuple #[.agg pkZ, .int .i64 (K : Int)])) := ⟨by rw [if_neg hK], hb⟩
theorem end_good {y : Array Value} {w w' : World} (hb : Below w.heap.size w w') : End2 0 y w w' (.returned (.tuple #[.agg y, .int .i64 0])) := ⟨by rw [if_pos rfl]; rfl, hb⟩
theorem one_set {cs : Array Value} (h : cs.all (·.oneCell') = true) {v : Value} (i : Nat) (hv : v.oneCell' = true) : (cs.setIfInBounds i v).all (·.oneCell') = true := by
  refine Array.all_eq_true_iff_forall_mem.2 fun u hu => ?_
  rcases Array.mem_or_eq_of_mem_setIfInBounds hu with h1 | h1
  · exact Array.all_eq_true_iff_forall_mem.1 h u h1
  · rw [h1]; exact hv
theorem keptS_grown1 {S g : Nat} {w w' : World} (h : w.grownBy w' (some g)) (hS : S ≤ w.heap.size) {q : Nat} (hg : g = q) : KeptS S (fun k => k = q) w w' :=
  ⟨h.os, h.tape, h.output, h.size, fun k hk hne => h.block k (by omega) (fun e => by cases e; exact hne hg)⟩
def udpA (cs : Array Value) (sp dp : Nat) : Array Value := (cs.setIfInBounds 8 (.int .i64 (sp : Int))).setIfInBounds 9 (.int .i64 (dp : Int))
def tcpA (cs : Array Value) (sp dp fl : Nat) : Array Value := ((cs.setIfInBounds 8 (.int .i64 (sp : Int))).setIfInBounds 9 (.int .i64 (dp : Int))).setIfInBounds 11 (.int .i64 (fl : Int))
set_option maxRecDepth 20000 in
set_option maxHeartbeats 16000000 in
theorem upper_tcp (cs : Array Value) (hcs : cs.size = 23) (hone : cs.all (·.oneCell') = true) (v6 : Bool) (h0 : cs[0]? = some (.bool v6)) (pr : Int) (h1 : cs[1]? = some (.int .i64 pr)) (errs : Int) (A P : Option Addr) (c d : Nat) (xs ps : List UInt8) (w : World)
    (hx : IsB w w.heap.size A xs.length xs) (hp : IsB w w.heap.size P ps.length ps) (hc : xs.length ≤ c) (hcm : c ≤ maxLen) (hnm : xs.length ≤ 1099511627776) (hm : ps.length ≤ maxLen) (hpr : pr = 6) (K : Nat) (hK : Tcp.parseK ps xs = K) (y : Array Value) (hy : K = 0 → y = tcpA cs (Tcp.parseS K xs 0) (Tcp.parseS K xs 2) (Tcp.parseF K xs)) :
    Calls Try.prog 63 #[.agg cs, .slice A xs.length c, .slice P ps.length d, .int .i64 errs] w fun e w' => End2 K y w w' e := by
  subst hpr
  obtain ⟨n, hn⟩ : ∃ n, xs.length = n := ⟨_, rfl⟩
  obtain ⟨pn, hpn⟩ : ∃ n, ps.length = n := ⟨_, rfl⟩
  obtain ⟨zs, hzs⟩ : ∃ zs, pkZ = zs := ⟨_, rfl⟩
  obtain ⟨w2, hw2, hb2, hg0, hg1, hz2⟩ := made_two w cs pkZ 34 34
  unfold pkZ at hw2
  rw [hzs] at hg1
  have hzz : zs.size = 23 := hzs ▸ pkZ_size
  have hcg0 := (blk_cell hg0 0).trans h0
  have hcg1 := (blk_cell hg0 1).trans h1
  have z0 : True := trivial
  rw [hn, hpn]
  replace hx := hide hx
  replace hp := hide hp
  replace hg0 := hide hg0
  replace hg1 := hide hg1
  replace hb2 := hide hb2
  replace hone := hide hone
  replace hzs := hide hzs
  replace h0 := hide h0
  replace h1 := hide h1
  replace hK := hide hK
  replace hy := hide hy
  go_enter Try.func63, Try.ntmps63
  have hTc := Tcp.parse_any A P xs.length c ps.length d xs ps w2 (hx.out.on hb2.out) (hp.out.on hb2.out) hc hcm hnm hm K hK.out
  rw [hn, hpn] at hTc
  replace hTc := hide hTc
  go_wp2_with fail
  refine hTc.out.mono ?_
  rintro e w3 ⟨sq, ak, wn, ug, A3, n3, c3, A4, n4, c4, rfl, hb3⟩
  clear hcg0 hcg1
  obtain ⟨s0, hs0⟩ : ∃ s, Tcp.parseS K xs 0 = s := ⟨_, rfl⟩
  obtain ⟨s2, hs2⟩ : ∃ s, Tcp.parseS K xs 2 = s := ⟨_, rfl⟩
  obtain ⟨fl, hfl⟩ : ∃ s, Tcp.parseF K xs = s := ⟨_, rfl⟩
  rw [hs0, hs2, hfl] at hy
  rw [hs0, hs2, hfl]
  replace hy := hide hy
  replace hs0 := hide hs0
  replace hs2 := hide hs2
  replace hfl := hide hfl
  obtain ⟨w4, hw4⟩ : ∃ w4, w3.alloc (.cells #[.int .i64 (s0 : Int), .int .i64 (s2 : Int), .int .u32 sq, .int .u32 ak, .int .i64 (fl : Int), .int .i64 wn, .int .i64 ug, .slice A3 n3 c3] 88) = w4 := ⟨_, rfl⟩
  have z3 := hb3.size
  have hb34 : Below w3.heap.size w3 w4 := hw4 ▸ (Below.refl _ _).alloc (Nat.le_refl _) _
  have hgm : w4.heap[w3.heap.size]? = some (.cells #[.int .i64 (s0 : Int), .int .i64 (s2 : Int), .int .u32 sq, .int .u32 ak, .int .i64 (fl : Int), .int .i64 wn, .int .i64 ug, .slice A3 n3 c3] 88 (0, 0)) := hw4 ▸ blk_new _ _ _
  have hz4 : w3.heap.size < w4.heap.size := by rw [← hw4]; simp
  have hB4 := (hb2.out.trans (hb3.mono (by omega))).trans (hb34.mono (by omega))
  have hg04 := blk_below hb34 (by omega) (blk_below hb3 (by omega) hg0.out)
  have hg14 := blk_below hb34 (by omega) (blk_below hb3 (by omega) hg1.out)
  clear hb3 hb34
  replace hgm := hide hgm
  replace hg04 := hide hg04
  replace hg14 := hide hg14
  replace hB4 := hide hB4
  by_cases hK0 : K = 0
  case neg =>
    have t3 : ((K : Int) == 0) = false := by rw [beq_eq_false_iff_ne]; omega
    go_upto_region 6 with fail
    apply wp_region_lit
    refine wpList_plain rfl fun K hK => ?_
    go_simp
    refine hK _ _ ?_
    clear hK K
    refine wpList_plain rfl fun K hK => ?_
    go_simp
    refine hK _ _ ?_
    clear hK K
    refine wpl_st rfl 34 (.tmp 8) (.tmp 31) rfl (w.heap.size + 1) 0 rfl pkZ rfl hg14.out (by rw [hzz, pkZ_size]; omega) size_pk pkZ_one fun w9 hg9 g9 => ?_
    rw [putA_whole _ _ (by rw [hzz, pkZ_size])] at hg9
    have hB9 := hB4.out.trans (below_grown g9 (by omega) (by omega))
    have hld : (loadVar 34 ⟨w.heap.size + 1, 0, none⟩).run Try.prog w9 = .ok (.agg pkZ) w9 := by
      simpa using run_loadVar_mid w9 (w.heap.size + 1) 0 34 pkZ.toList _ (blk_range hg9) Try.underlying34 rfl (by rw [size_pk, Array.length_toList, pkZ_size])
    have hfin := end_bad (y := y) (K : Nat) hK0 hB9
    clear g9
    replace hg9 := hide hg9
    replace hB9 := hide hB9
    replace hfin := hide hfin
    replace hld := hide hld
    refine wpList_plain rfl fun K hK => ?_
    go_simp
    refine hK _ _ ?_
    clear hK K
    refine wpList_nil ?_
    go_wp2_with fail
    exact bodyPost_ret (v := .tuple #[.agg pkZ, .int .i64 (K : Int)]) (by simp [results, Try.results63, asAddr, hld.out, Result.andThen]) rfl hfin.out
  subst hK0
  go_upto_region 7 with fail
  clear hw4
  refine wp_region_S w4.heap.size (fun k => k = w.heap.size) (by as_aux_lemma => kernel_rfl) ?_
  intro wd hbd
  have zd := hbd.size
  have hgmd := blk_below hbd (by omega) hgm.out
  have hg0d := blk_below hbd (by omega) hg04.out
  have hg1d := blk_below hbd (by omega) hg14.out
  have hBd := hB4.out.trans (hbd.mono (by omega))
  have hcl := fun (l : KeptSW w4.heap.size (fun k => k = w.heap.size) wd) (o : Nat) => blk_cell (l.blk hgmd (by omega) (by omega)) o
  replace hgmd := hide hgmd
  replace hg0d := hide hg0d
  replace hg1d := hide hg1d
  replace hBd := hide hBd
  replace hbd := hide hbd
  refine wpS_seg w4.heap.size (fun k => k = w.heap.size) 0 8 (fuel := 6) (by as_aux_lemma => kernel_rfl) (fun d _ _ _ _ h => by cases d <;> exact h) (by as_aux_lemma => kernel_rfl) (by as_aux_lemma => kernel_rfl) ?_
  simp only [List.drop_zero, List.take_succ_cons, List.take_zero]
  iterate 8 (refine wpQS_step (fun K hK => ?_); go_simp; refine hK _ ?_; clear hK K)
  refine wpQF_nil ?_
  obtain ⟨x1, hx1⟩ : ∃ x, cs[8]? = some x := ⟨_, Array.getElem?_eq_getElem (by omega)⟩
  have hcx := (blk_cell hg0d.out 8).trans hx1
  have hfx := blk_free hg0d.out 8
  obtain ⟨wq1, eq1, hq1, gq1⟩ := store_cell hg0d.out 8 (.int .i64 (s0 : Int))
  obtain ⟨cs1, hc1⟩ : ∃ x, cs.setIfInBounds 8 (.int .i64 (s0 : Int)) = x := ⟨_, rfl⟩
  rw [hc1] at hq1
  have hs1 : cs1.size = 23 := by rw [← hc1, Array.size_setIfInBounds, hcs]
  have ho1 : cs1.all (·.oneCell') = true := by rw [← hc1]; exact one_set hone.out _ rfl
  have zq1 := gq1.size
  have h1q1 := grown_other gq1 (by omega) (by omega) hg1d.out
  have hBq1 := hBd.out.trans (below_grown gq1 (by omega) (by omega))
  clear hx1
  replace hq1 := hide hq1
  replace hc1 := hide hc1
  replace ho1 := hide ho1
  replace h1q1 := hide h1q1
  replace hBq1 := hide hBq1
  refine wpF_step 8 rfl (by as_aux_lemma => kernel_rfl) (fun K hK => ?_)
  go_simp
  refine hK _ _ (keptS_grown1 gq1 (by omega) rfl) ?_
  clear hK K hcx hfx eq1 gq1
  refine wpS_seg w4.heap.size (fun k => k = w.heap.size) 9 2 (fuel := 3) (by as_aux_lemma => kernel_rfl) (fun d _ _ _ _ h => by cases d <;> exact h) (by as_aux_lemma => kernel_rfl) (by as_aux_lemma => kernel_rfl) ?_
  simp only [List.drop_succ_cons, List.drop_zero, List.take_succ_cons, List.take_zero]
  iterate 2 (refine wpQS_step (fun K hK => ?_); go_simp; refine hK _ ?_; clear hK K)
  refine wpQF_nil ?_
  obtain ⟨x2, hx2⟩ : ∃ x, cs1[9]? = some x := ⟨_, Array.getElem?_eq_getElem (by omega)⟩
  have hcx := (blk_cell hq1.out 9).trans hx2
  have hfx := blk_free hq1.out 9
  obtain ⟨wq2, eq2, hq2, gq2⟩ := store_cell hq1.out 9 (.int .i64 (s2 : Int))
  obtain ⟨cs2, hc2⟩ : ∃ x, cs1.setIfInBounds 9 (.int .i64 (s2 : Int)) = x := ⟨_, rfl⟩
  rw [hc2] at hq2
  have hs2 : cs2.size = 23 := by rw [← hc2, Array.size_setIfInBounds, hs1]
  have ho2 : cs2.all (·.oneCell') = true := by rw [← hc2]; exact one_set ho1.out _ rfl
  have zq2 := gq2.size
  have h1q2 := grown_other gq2 (by omega) (by omega) h1q1.out
  have hBq2 := hBq1.out.trans (below_grown gq2 (by omega) (by omega))
  clear hx2
  replace hq2 := hide hq2
  replace hc2 := hide hc2
  replace ho2 := hide ho2
  replace h1q2 := hide h1q2
  replace hBq2 := hide hBq2
  refine wpF_step 11 rfl (by as_aux_lemma => kernel_rfl) (fun K hK => ?_)
  go_simp
  refine hK _ _ (keptS_grown1 gq2 (by omega) rfl) ?_
  clear hK K hcx hfx eq2 gq2
  refine wpS_seg w4.heap.size (fun k => k = w.heap.size) 12 1 (fuel := 1) (by as_aux_lemma => kernel_rfl) (fun d _ _ _ _ h => by cases d <;> exact h) (by as_aux_lemma => kernel_rfl) (by as_aux_lemma => kernel_rfl) ?_
  simp only [List.drop_succ_cons, List.drop_zero, List.take_succ_cons, List.take_zero]
  iterate 1 (refine wpQS_step (fun K hK => ?_); go_simp; refine hK _ ?_; clear hK K)
  refine wpQF_nil ?_
  obtain ⟨x3, hx3⟩ : ∃ x, cs2[11]? = some x := ⟨_, Array.getElem?_eq_getElem (by omega)⟩
  have hcx := (blk_cell hq2.out 11).trans hx3
  have hfx := blk_free hq2.out 11
  obtain ⟨wq3, eq3, hq3, gq3⟩ := store_cell hq2.out 11 (.int .i64 (fl : Int))
  obtain ⟨cs3, hc3⟩ : ∃ x, cs2.setIfInBounds 11 (.int .i64 (fl : Int)) = x := ⟨_, rfl⟩
  rw [hc3] at hq3
  have hs3 : cs3.size = 23 := by rw [← hc3, Array.size_setIfInBounds, hs2]
  have ho3 : cs3.all (·.oneCell') = true := by rw [← hc3]; exact one_set ho2.out _ rfl
  have zq3 := gq3.size
  have h1q3 := grown_other gq3 (by omega) (by omega) h1q2.out
  have hBq3 := hBq2.out.trans (below_grown gq3 (by omega) (by omega))
  clear hx3
  replace hq3 := hide hq3
  replace hc3 := hide hc3
  replace ho3 := hide ho3
  replace h1q3 := hide h1q3
  replace hBq3 := hide hBq3
  refine wpF_step 13 rfl (by as_aux_lemma => kernel_rfl) (fun K hK => ?_)
  go_simp
  refine hK _ _ (keptS_grown1 gq3 (by omega) rfl) ?_
  clear hK K hcx hfx eq3 gq3
  refine wpF_done (by as_aux_lemma => kernel_rfl) ?_ 0
  have hy7 : y = cs3 := by
    have h9 := hy.out (by simp)
    unfold tcpA at h9
    rw [hc1.out, hc2.out, hc3.out] at h9
    exact h9
  subst hy7
  have hg7 := hq3.out
  have hg17 := h1q3.out
  have hB7 := hBq3.out
  have hs7 := hs3
  have ho7 := ho3.out
  clear hcl
  replace hg7 := hide hg7
  replace hg17 := hide hg17
  replace hB7 := hide hB7
  replace ho7 := hide ho7
  go_upto_region 15 with fail
  apply wp_region_lit
  refine wpl_ld rfl 34 (.tmp 4) rfl w.heap.size rfl y _ hg7.out Try.underlying34 rfl (by rw [size_pk, hs7]) ?_
  refine wpl_st rfl 34 (.tmp 8) (.tmp 77) rfl (w.heap.size + 1) 0 rfl y rfl hg17.out (by rw [hzz, hs7]; omega) (by rw [size_pk, hs7]) ho7.out fun w9 hg9 g9 => ?_
  rw [putA_whole _ _ (by rw [hzz, hs7])] at hg9
  have hB9 := hB7.out.trans (below_grown g9 (by omega) (by omega))
  have hld : (loadVar 34 ⟨w.heap.size + 1, 0, none⟩).run Try.prog w9 = .ok (.agg y) w9 := by
    simpa using run_loadVar_mid w9 (w.heap.size + 1) 0 34 y.toList _ (blk_range hg9) Try.underlying34 rfl (by rw [size_pk, Array.length_toList, hs7])
  have hfin := end_good (y := y) hB9
  clear g9
  replace hg9 := hide hg9
  replace hB9 := hide hB9
  replace hfin := hide hfin
  replace hld := hide hld
  refine wpList_plain rfl fun K hK => ?_
  go_simp
  refine hK _ _ ?_
  clear hK K
  refine wpList_nil ?_
  go_wp2_with fail
  exact bodyPost_ret (v := .tuple #[.agg y, .int .i64 0]) (by simp [results, Try.results63, asAddr, hld.out, Result.andThen]) rfl hfin.out
set_option maxRecDepth 20000 in
set_option maxHeartbeats 16000000 in
theorem upper_udp (cs : Array Value) (hcs : cs.size = 23) (hone : cs.all (·.oneCell') = true) (v6 : Bool) (h0 : cs[0]? = some (.bool v6)) (pr : Int) (h1 : cs[1]? = some (.int .i64 pr)) (errs : Int) (A P : Option Addr) (c d : Nat) (xs ps : List UInt8) (w : World)
    (hx : IsB w w.heap.size A xs.length xs) (hp : IsB w w.heap.size P ps.length ps) (hc : xs.length ≤ c) (hcm : c ≤ maxLen) (hnm : xs.length ≤ 1099511627776) (hm : ps.length ≤ maxLen) (hpr : pr = 17) (K : Nat) (hK : Udp.parseK (!v6) ps xs = K) (y : Array Value) (hy : K = 0 → y = udpA cs (Udp.parseS K xs 0) (Udp.parseS K xs 2)) :
    Calls Try.prog 63 #[.agg cs, .slice A xs.length c, .slice P ps.length d, .int .i64 errs] w fun e w' => End2 K y w w' e := by
  subst hpr
  obtain ⟨n, hn⟩ : ∃ n, xs.length = n := ⟨_, rfl⟩
  obtain ⟨pn, hpn⟩ : ∃ n, ps.length = n := ⟨_, rfl⟩
  obtain ⟨zs, hzs⟩ : ∃ zs, pkZ = zs := ⟨_, rfl⟩
  obtain ⟨w2, hw2, hb2, hg0, hg1, hz2⟩ := made_two w cs pkZ 34 34
  unfold pkZ at hw2
  rw [hzs] at hg1
  have hzz : zs.size = 23 := hzs ▸ pkZ_size
  have hcg0 := (blk_cell hg0 0).trans h0
  have hcg1 := (blk_cell hg0 1).trans h1
  have z0 : True := trivial
  rw [hn, hpn]
  replace hx := hide hx
  replace hp := hide hp
  replace hg0 := hide hg0
  replace hg1 := hide hg1
  replace hb2 := hide hb2
  replace hone := hide hone
  replace hzs := hide hzs
  replace h0 := hide h0
  replace h1 := hide h1
  replace hK := hide hK
  replace hy := hide hy
  go_enter Try.func63, Try.ntmps63
  have hTc := Udp.parse_any A P xs.length c ps.length d xs ps (!v6) w2 (hx.out.on hb2.out) (hp.out.on hb2.out) hc hcm hnm hm K hK.out
  rw [hn, hpn] at hTc
  replace hTc := hide hTc
  go_wp2_with fail
  refine hTc.out.mono ?_
  rintro e w3 ⟨A3, n3, c3, rfl, _, _, _, hb3⟩
  clear hcg0 hcg1
  obtain ⟨s0, hs0⟩ : ∃ s, Udp.parseS K xs 0 = s := ⟨_, rfl⟩
  obtain ⟨s2, hs2⟩ : ∃ s, Udp.parseS K xs 2 = s := ⟨_, rfl⟩
  obtain ⟨bb, hbb⟩ : ∃ s, Udp.parseB K xs = s := ⟨_, rfl⟩
  rw [hs0, hs2] at hy
  rw [hs0, hs2, hbb]
  replace hy := hide hy
  replace hs0 := hide hs0
  replace hs2 := hide hs2
  replace hbb := hide hbb
  obtain ⟨w4, hw4⟩ : ∃ w4, w3.alloc (.cells #[.int .i64 (s0 : Int), .int .i64 (s2 : Int), .bool bb] 84) = w4 := ⟨_, rfl⟩
  have z3 := hb3.size
  have hb34 : Below w3.heap.size w3 w4 := hw4 ▸ (Below.refl _ _).alloc (Nat.le_refl _) _
  have hgm : w4.heap[w3.heap.size]? = some (.cells #[.int .i64 (s0 : Int), .int .i64 (s2 : Int), .bool bb] 84 (0, 0)) := hw4 ▸ blk_new _ _ _
  have hz4 : w3.heap.size < w4.heap.size := by rw [← hw4]; simp
  have hB4 := (hb2.out.trans (hb3.mono (by omega))).trans (hb34.mono (by omega))
  have hg04 := blk_below hb34 (by omega) (blk_below hb3 (by omega) hg0.out)
  have hg14 := blk_below hb34 (by omega) (blk_below hb3 (by omega) hg1.out)
  clear hb3 hb34
  replace hgm := hide hgm
  replace hg04 := hide hg04
  replace hg14 := hide hg14
  replace hB4 := hide hB4
  by_cases hK0 : K = 0
  case neg =>
    have t3 : ((K : Int) == 0) = false := by rw [beq_eq_false_iff_ne]; omega
    go_upto_region 11 with fail
    apply wp_region_lit
    refine wpList_plain rfl fun K hK => ?_
    go_simp
    refine hK _ _ ?_
    clear hK K
    refine wpList_plain rfl fun K hK => ?_
    go_simp
    refine hK _ _ ?_
    clear hK K
    refine wpl_st rfl 34 (.tmp 8) (.tmp 58) rfl (w.heap.size + 1) 0 rfl pkZ rfl hg14.out (by rw [hzz, pkZ_size]; omega) size_pk pkZ_one fun w9 hg9 g9 => ?_
    rw [putA_whole _ _ (by rw [hzz, pkZ_size])] at hg9
    have hB9 := hB4.out.trans (below_grown g9 (by omega) (by omega))
    have hld : (loadVar 34 ⟨w.heap.size + 1, 0, none⟩).run Try.prog w9 = .ok (.agg pkZ) w9 := by
      simpa using run_loadVar_mid w9 (w.heap.size + 1) 0 34 pkZ.toList _ (blk_range hg9) Try.underlying34 rfl (by rw [size_pk, Array.length_toList, pkZ_size])
    have hfin := end_bad (y := y) (K : Nat) hK0 hB9
    clear g9
    replace hg9 := hide hg9
    replace hB9 := hide hB9
    replace hfin := hide hfin
    replace hld := hide hld
    refine wpList_plain rfl fun K hK => ?_
    go_simp
    refine hK _ _ ?_
    clear hK K
    refine wpList_nil ?_
    go_wp2_with fail
    exact bodyPost_ret (v := .tuple #[.agg pkZ, .int .i64 (K : Int)]) (by simp [results, Try.results63, asAddr, hld.out, Result.andThen]) rfl hfin.out
  subst hK0
  go_upto_region 12 with fail
  clear hw4
  refine wp_region_S w4.heap.size (fun k => k = w.heap.size) (by as_aux_lemma => kernel_rfl) ?_
  intro wd hbd
  have zd := hbd.size
  have hgmd := blk_below hbd (by omega) hgm.out
  have hg0d := blk_below hbd (by omega) hg04.out
  have hg1d := blk_below hbd (by omega) hg14.out
  have hBd := hB4.out.trans (hbd.mono (by omega))
  have hcl := fun (l : KeptSW w4.heap.size (fun k => k = w.heap.size) wd) (o : Nat) => blk_cell (l.blk hgmd (by omega) (by omega)) o
  replace hgmd := hide hgmd
  replace hg0d := hide hg0d
  replace hg1d := hide hg1d
  replace hBd := hide hBd
  replace hbd := hide hbd
  refine wpS_seg w4.heap.size (fun k => k = w.heap.size) 0 6 (fuel := 4) (by as_aux_lemma => kernel_rfl) (fun d _ _ _ _ h => by cases d <;> exact h) (by as_aux_lemma => kernel_rfl) (by as_aux_lemma => kernel_rfl) ?_
  simp only [List.drop_zero, List.take_succ_cons, List.take_zero]
  iterate 6 (refine wpQS_step (fun K hK => ?_); go_simp; refine hK _ ?_; clear hK K)
  refine wpQF_nil ?_
  obtain ⟨x1, hx1⟩ : ∃ x, cs[8]? = some x := ⟨_, Array.getElem?_eq_getElem (by omega)⟩
  have hcx := (blk_cell hg0d.out 8).trans hx1
  have hfx := blk_free hg0d.out 8
  obtain ⟨wq1, eq1, hq1, gq1⟩ := store_cell hg0d.out 8 (.int .i64 (s0 : Int))
  obtain ⟨cs1, hc1⟩ : ∃ x, cs.setIfInBounds 8 (.int .i64 (s0 : Int)) = x := ⟨_, rfl⟩
  rw [hc1] at hq1
  have hs1 : cs1.size = 23 := by rw [← hc1, Array.size_setIfInBounds, hcs]
  have ho1 : cs1.all (·.oneCell') = true := by rw [← hc1]; exact one_set hone.out _ rfl
  have zq1 := gq1.size
  have h1q1 := grown_other gq1 (by omega) (by omega) hg1d.out
  have hBq1 := hBd.out.trans (below_grown gq1 (by omega) (by omega))
  clear hx1
  replace hq1 := hide hq1
  replace hc1 := hide hc1
  replace ho1 := hide ho1
  replace h1q1 := hide h1q1
  replace hBq1 := hide hBq1
  refine wpF_step 6 rfl (by as_aux_lemma => kernel_rfl) (fun K hK => ?_)
  go_simp
  refine hK _ _ (keptS_grown1 gq1 (by omega) rfl) ?_
  clear hK K hcx hfx eq1 gq1
  refine wpS_seg w4.heap.size (fun k => k = w.heap.size) 7 2 (fuel := 1) (by as_aux_lemma => kernel_rfl) (fun d _ _ _ _ h => by cases d <;> exact h) (by as_aux_lemma => kernel_rfl) (by as_aux_lemma => kernel_rfl) ?_
  simp only [List.drop_succ_cons, List.drop_zero, List.take_succ_cons, List.take_zero]
  iterate 2 (refine wpQS_step (fun K hK => ?_); go_simp; refine hK _ ?_; clear hK K)
  refine wpQF_nil ?_
  obtain ⟨x2, hx2⟩ : ∃ x, cs1[9]? = some x := ⟨_, Array.getElem?_eq_getElem (by omega)⟩
  have hcx := (blk_cell hq1.out 9).trans hx2
  have hfx := blk_free hq1.out 9
  obtain ⟨wq2, eq2, hq2, gq2⟩ := store_cell hq1.out 9 (.int .i64 (s2 : Int))
  obtain ⟨cs2, hc2⟩ : ∃ x, cs1.setIfInBounds 9 (.int .i64 (s2 : Int)) = x := ⟨_, rfl⟩
  rw [hc2] at hq2
  have hs2 : cs2.size = 23 := by rw [← hc2, Array.size_setIfInBounds, hs1]
  have ho2 : cs2.all (·.oneCell') = true := by rw [← hc2]; exact one_set ho1.out _ rfl
  have zq2 := gq2.size
  have h1q2 := grown_other gq2 (by omega) (by omega) h1q1.out
  have hBq2 := hBq1.out.trans (below_grown gq2 (by omega) (by omega))
  clear hx2
  replace hq2 := hide hq2
  replace hc2 := hide hc2
  replace ho2 := hide ho2
  replace h1q2 := hide h1q2
  replace hBq2 := hide hBq2
  refine wpF_step 9 rfl (by as_aux_lemma => kernel_rfl) (fun K hK => ?_)
  go_simp
  refine hK _ _ (keptS_grown1 gq2 (by omega) rfl) ?_
  clear hK K hcx hfx eq2 gq2
  refine wpF_done (by as_aux_lemma => kernel_rfl) ?_ 0
  have hy7 : y = cs2 := by
    have h9 := hy.out (by simp)
    unfold udpA at h9
    rw [hc1.out, hc2.out] at h9
    exact h9
  subst hy7
  have hg7 := hq2.out
  have hg17 := h1q2.out
  have hB7 := hBq2.out
  have hs7 := hs2
  have ho7 := ho2.out
  clear hcl
  replace hg7 := hide hg7
  replace hg17 := hide hg17
  replace hB7 := hide hB7
  replace ho7 := hide ho7
  go_upto_region 15 with fail
  apply wp_region_lit
  refine wpl_ld rfl 34 (.tmp 4) rfl w.heap.size rfl y _ hg7.out Try.underlying34 rfl (by rw [size_pk, hs7]) ?_
  refine wpl_st rfl 34 (.tmp 8) (.tmp 77) rfl (w.heap.size + 1) 0 rfl y rfl hg17.out (by rw [hzz, hs7]; omega) (by rw [size_pk, hs7]) ho7.out fun w9 hg9 g9 => ?_
  rw [putA_whole _ _ (by rw [hzz, hs7])] at hg9
  have hB9 := hB7.out.trans (below_grown g9 (by omega) (by omega))
  have hld : (loadVar 34 ⟨w.heap.size + 1, 0, none⟩).run Try.prog w9 = .ok (.agg y) w9 := by
    simpa using run_loadVar_mid w9 (w.heap.size + 1) 0 34 y.toList _ (blk_range hg9) Try.underlying34 rfl (by rw [size_pk, Array.length_toList, hs7])
  have hfin := end_good (y := y) hB9
  clear g9
  replace hg9 := hide hg9
  replace hB9 := hide hB9
  replace hfin := hide hfin
  replace hld := hide hld
  refine wpList_plain rfl fun K hK => ?_
  go_simp
  refine hK _ _ ?_
  clear hK K
  refine wpList_nil ?_
  go_wp2_with fail
  exact bodyPost_ret (v := .tuple #[.agg y, .int .i64 0]) (by simp [results, Try.results63, asAddr, hld.out, Result.andThen]) rfl hfin.out
set_option maxRecDepth 20000 in
set_option maxHeartbeats 16000000 in
theorem upper_none (cs : Array Value) (_hcs : cs.size = 23) (hone : cs.all (·.oneCell') = true) (v6 : Bool) (h0 : cs[0]? = some (.bool v6)) (pr : Int) (h1 : cs[1]? = some (.int .i64 pr)) (errs : Int) (A P : Option Addr) (c d : Nat) (xs ps : List UInt8) (w : World)
    (hx : IsB w w.heap.size A xs.length xs) (hp : IsB w w.heap.size P ps.length ps) (_hc : xs.length ≤ c) (_hcm : c ≤ maxLen) (_hnm : xs.length ≤ 1099511627776) (_hm : ps.length ≤ maxLen) (hp6 : pr ≠ 6) (hp17 : pr ≠ 17) (hpe : pr ≠ errs) (y : Array Value) :
    Calls Try.prog 63 #[.agg cs, .slice A xs.length c, .slice P ps.length d, .int .i64 errs] w fun e w' => End2 14 y w w' e := by
  obtain ⟨n, hn⟩ : ∃ n, xs.length = n := ⟨_, rfl⟩
  obtain ⟨pn, hpn⟩ : ∃ n, ps.length = n := ⟨_, rfl⟩
  obtain ⟨zs, hzs⟩ : ∃ zs, pkZ = zs := ⟨_, rfl⟩
  obtain ⟨w2, hw2, hb2, hg0, hg1, hz2⟩ := made_two w cs pkZ 34 34
  unfold pkZ at hw2
  rw [hzs] at hg1
  have hzz : zs.size = 23 := hzs ▸ pkZ_size
  have hcg0 := (blk_cell hg0 0).trans h0
  have hcg1 := (blk_cell hg0 1).trans h1
  have t1 : (pr == 6) = false := by simpa using hp6
  have t2 : (pr == 17) = false := by simpa using hp17
  have t3 : (pr == errs) = false := by simpa using hpe
  rw [hn, hpn]
  clear hp6 hp17 hpe
  replace hx := hide hx
  replace hp := hide hp
  replace hg0 := hide hg0
  replace hg1 := hide hg1
  replace hb2 := hide hb2
  replace hone := hide hone
  replace hzs := hide hzs
  replace h0 := hide h0
  replace h1 := hide h1
  go_enter Try.func63, Try.ntmps63
  go_upto_region 2 with fail
  clear hw2 hcg0 hcg1
  apply wp_region_lit
  refine wpList_plain rfl fun K hK => ?_
  go_simp
  refine hK _ _ ?_
  clear hK K
  refine wpl_st rfl 34 (.tmp 8) (.tmp 19) rfl (w.heap.size + 1) 0 rfl pkZ rfl hg1.out (by rw [hzz, pkZ_size]; omega) size_pk pkZ_one fun w9 hg9 g9 => ?_
  rw [putA_whole _ _ (by rw [hzz, pkZ_size])] at hg9
  have hB9 := hb2.out.trans (below_grown g9 (by omega) (by omega))
  have hld : (loadVar 34 ⟨w.heap.size + 1, 0, none⟩).run Try.prog w9 = .ok (.agg pkZ) w9 := by
    simpa using run_loadVar_mid w9 (w.heap.size + 1) 0 34 pkZ.toList _ (blk_range hg9) Try.underlying34 rfl (by rw [size_pk, Array.length_toList, pkZ_size])
  have hfin := end_bad (y := y) 14 (by omega) hB9
  clear g9
  replace hg9 := hide hg9
  replace hB9 := hide hB9
  replace hfin := hide hfin
  replace hld := hide hld
  refine wpList_plain rfl fun K hK => ?_
  go_simp
  refine hK _ _ ?_
  clear hK K
  refine wpList_nil ?_
  go_wp2_with fail
  exact bodyPost_ret (v := .tuple #[.agg pkZ, .int .i64 (14 : Int)]) (by simp [results, Try.results63, asAddr, hld.out, Result.andThen]) rfl hfin.out
set_option maxRecDepth 20000 in
set_option maxHeartbeats 16000000 in
theorem upper_err (cs : Array Value) (hcs : cs.size = 23) (hone : cs.all (·.oneCell') = true) (v6 : Bool) (h0 : cs[0]? = some (.bool v6)) (pr : Int) (h1 : cs[1]? = some (.int .i64 pr)) (errs : Int) (A P : Option Addr) (c d : Nat) (xs ps : List UInt8) (w : World)
    (hx : IsB w w.heap.size A xs.length xs) (hp : IsB w w.heap.size P ps.length ps) (hc : xs.length ≤ c) (hcm : c ≤ maxLen) (_hnm : xs.length ≤ 1099511627776) (_hm : ps.length ≤ maxLen) (hp6 : pr ≠ 6) (hp17 : pr ≠ 17) (hpe : pr = errs)
    (K1 : Nat) (ty cd wd : Int) (ds : List UInt8) (hP : Icmp.ParseIs xs (aheadP v6 ps) K1 ty cd wd ds) (K2 : Nat) (qr : Int) (sv : Bool) (sh sl : Int) (dv : Bool) (dh dl sp dp : Int) (hQ : Icmp.QuotedIs v6 ty ds K2 qr sv sh sl dv dh dl sp dp) :
    Calls Try.prog 63 #[.agg cs, .slice A xs.length c, .slice P ps.length d, .int .i64 errs] w fun e w' => End2 (if K1 ≠ 0 then K1 else K2) (errA cs (tuA qr dv dh dl sv sh sl dp sp)) w w' e := by
  subst hpe
  obtain ⟨n, hn⟩ : ∃ n, xs.length = n := ⟨_, rfl⟩
  obtain ⟨pn, hpn⟩ : ∃ n, ps.length = n := ⟨_, rfl⟩
  obtain ⟨zs, hzs⟩ : ∃ zs, pkZ = zs := ⟨_, rfl⟩
  obtain ⟨w2, hw2, hb2, hg0, hg1, hz2⟩ := made_two w cs pkZ 34 34
  unfold pkZ at hw2
  rw [hzs] at hg1
  have hzz : zs.size = 23 := hzs ▸ pkZ_size
  have hcg0 := (blk_cell hg0 0).trans h0
  have hcg1 := (blk_cell hg0 1).trans h1
  have t1 : (pr == 6) = false := by simpa using hp6
  have t2 : (pr == 17) = false := by simpa using hp17
  have hQt := quote_any cs hcs hone v6 h0 A P c d xs ps w2 (hx.on hb2) (hp.on hb2) hc hcm K1 ty cd wd ds hP K2 qr sv sh sl dv dh dl sp dp hQ
  rw [hn, hpn] at hQt
  rw [hn, hpn]
  clear hp6 hp17
  obtain ⟨y, hy⟩ : ∃ y, errA cs (tuA qr dv dh dl sv sh sl dp sp) = y := ⟨_, rfl⟩
  rw [hy] at hQt ⊢
  have hys : y.size = 23 := by
    rw [← hy]
    unfold errA
    rw [putA_size _ _ _ (by rw [Array.size_setIfInBounds, hcs]; exact (show 13 + 9 ≤ 23 by omega)), Array.size_setIfInBounds, hcs]
  have hyo : y.all (·.oneCell') = true := by
    rw [← hy]
    exact all_put (one_set hone _ rfl) (by simpa using tuA_one qr dv dh dl sv sh sl dp sp)
  obtain ⟨Kq, hKq⟩ : ∃ Kq, (if K1 ≠ 0 then K1 else K2) = Kq := ⟨_, rfl⟩
  rw [hKq]
  replace hx := hide hx
  replace hp := hide hp
  replace hg0 := hide hg0
  replace hg1 := hide hg1
  replace hb2 := hide hb2
  replace hone := hide hone
  replace hzs := hide hzs
  replace h0 := hide h0
  replace h1 := hide h1
  replace hQt := hide hQt
  replace hy := hide hy
  replace hyo := hide hyo
  replace hKq := hide hKq
  go_enter Try.func63, Try.ntmps63
  go_upto_region 14 with fail
  clear hw2 hcg0 hcg1
  apply wp_region_lit
  refine wpl_ld rfl 34 (.tmp 4) rfl w.heap.size rfl cs _ hg0.out Try.underlying34 rfl (by rw [size_pk, hcs]) ?_
  refine wpList_plain rfl fun K hK => ?_
  go_simp
  refine hK _ _ ?_
  clear hK K
  refine wpList_plain rfl fun K hK => ?_
  go_simp
  refine hK _ _ ?_
  clear hK K
  refine wpList_plain rfl fun K hK => ?_
  go_simp
  go_at_call 86
  refine hQt.out.mono ?_
  rintro e w3 ⟨⟨r1, r2, r3⟩, hb3⟩
  obtain ⟨z, rfl, hz, hzo, hzE⟩ : ∃ z : Array Value, e = .returned (.tuple #[.agg z, .int .i64 (Kq : Int)]) ∧ z.size = 23 ∧ z.all (·.oneCell') = true ∧ (if Kq = 0 then y else pkZ) = z := by
    by_cases h1 : K1 = 0
    · rw [if_neg (fun h => h h1)] at hKq
      have hK2 := hKq.out
      by_cases h2 : K2 = 0
      · refine ⟨y, by rw [r3 h1 h2, ← hK2, h2]; rfl, hys, hyo.out, by rw [if_pos (by omega)]⟩
      · refine ⟨pkZ, by rw [r2 h1 h2, ← hK2], pkZ_size, pkZ_one, by rw [if_neg (by omega)]⟩
    · rw [if_pos h1] at hKq
      have hK1 := hKq.out
      exact ⟨pkZ, by rw [r1 h1, ← hK1], pkZ_size, pkZ_one, by rw [if_neg (by omega)]⟩
  have z3 := hb3.size
  have hB3 := hb2.out.trans (hb3.mono (by omega))
  have hg13 := blk_below hb3 (by omega) hg1.out
  clear r1 r2 r3 hb3
  replace hB3 := hide hB3
  replace hg13 := hide hg13
  replace hzo := hide hzo
  replace hzE := hide hzE
  refine hK _ _ ?_
  clear hK K
  refine wpList_plain rfl fun K hK => ?_
  go_simp
  refine hK _ _ ?_
  clear hK K
  refine wpList_plain rfl fun K hK => ?_
  go_simp
  refine hK _ _ ?_
  clear hK K
  refine wpl_st rfl 34 (.tmp 8) (.tmp 75) rfl (w.heap.size + 1) 0 rfl z rfl hg13.out (by rw [hzz, hz]; omega) (by rw [size_pk, hz]) hzo.out fun w9 hg9 g9 => ?_
  rw [putA_whole _ _ (by rw [hzz, hz])] at hg9
  have hB9 := hB3.out.trans (below_grown g9 (by omega) (by omega))
  have hld : (loadVar 34 ⟨w.heap.size + 1, 0, none⟩).run Try.prog w9 = .ok (.agg z) w9 := by
    simpa using run_loadVar_mid w9 (w.heap.size + 1) 0 34 z.toList _ (blk_range hg9) Try.underlying34 rfl (by rw [size_pk, Array.length_toList, hz])
  have hfin : End2 Kq y w w9 (.returned (.tuple #[.agg z, .int .i64 (Kq : Int)])) := ⟨by rw [hzE.out], hB9⟩
  clear g9
  replace hg9 := hide hg9
  replace hB9 := hide hB9
  replace hfin := hide hfin
  replace hld := hide hld
  refine wpList_plain rfl fun K hK => ?_
  go_simp
  refine hK _ _ ?_
  clear hK K
  refine wpList_nil ?_
  go_wp2_with fail
  exact bodyPost_ret (v := .tuple #[.agg z, .int .i64 (Kq : Int)]) (by simp [results, Try.results63, asAddr, hld.out, Result.andThen]) rfl hfin.out
end Pkt
end Go.Proofs.Ytfmmmjaficbchaa
/- (six.Head).More, by contract. -/
namespace Go.Proofs.Ytfmmmjaficbchaa
open Go.RowKit Go.ChangeShapes Go.WideShapes Go.ChangeAt Go.Deep
namespace Six
/-- Do more parts follow? -/
def moreP (es : List (Int × List UInt8)) : Bool := beN (partP es) 1 2 % 2 == 1
set_option maxRecDepth 4000 in
set_option maxHeartbeats 2000000 in
theorem more_any (cls lab hop : Int) (sv : Bool) (shi slo : Int) (dv : Bool) (dhi dlo : Int) (X : Option Addr) (n c : Nat) (proto : Int) (es : List Ext) (w : World) (hx : IsX w w.heap.size X n es) (hn : n ≤ maxLen) :
    Calls Try.prog 66 #[hdV cls lab hop sv shi slo dv dhi dlo X n c proto] w fun e w' => e = .returned (.bool (moreP (pes es))) ∧ Below w.heap.size w w' := by
  have hx1 := hx.alloc (hdC cls lab hop sv shi slo dv dhi dlo X n c proto)
  unfold hdC at hx1
  obtain ⟨v, hv⟩ : ∃ v, beN (partB es) 1 2 = v := ⟨_, rfl⟩
  have hvl : v < 65536 := by rw [← hv]; exact beN_lt _ 1 2
  have hbm : bits .and .u64 (v : Int) 1 = ((v % 2 : Nat) : Int) := (bits_mask .u64 64 (by decide) wrapsu64 1 (by decide) (v : Int) (by omega) (by omega)).trans (by omega)
  have hm : moreP (pes es) = (v % 2 == 1) := by unfold moreP pes; rw [← partB_eq, hv]
  rw [hm]
  replace hx := hide hx
  replace hx1 := hide hx1
  replace hv := hide hv
  replace hm := hide hm
  replace hbm := hide hbm
  unfold hdV
  go_enter Try.func66, Try.ntmps66
  go_wp2_with fail
  refine (part_any cls lab hop sv shi slo dv dhi dlo X n c proto es _ hx1.out hn).mono ?_
  rintro e w1 ⟨rfl, hb1⟩
  have hbw := ((Below.refl w.heap.size w).alloc (Nat.le_refl _) (hdC cls lab hop sv shi slo dv dhi dlo X n c proto)).trans (hb1.mono (by simp))
  obtain ⟨A', n', c', hpv, hpr, hpn⟩ := partV_read es w1 w1.heap.size (hx1.out.on hb1).2.2
  rw [hpv]
  clear hpv hb1
  replace hbw := hide hbw
  replace hpr := hide hpr
  go_wp2_with fail
  refine (Octet.at_lit _ _ 1 2 rfl rfl _ _ _ (partB es) _ hpr.out hpn (by omega) (by omega)).mono ?_
  rintro e w' ⟨rfl, rfl⟩
  rw [hv.out]
  go_wp2_with fail
  rw [hbm.out]
  go_ret
  refine ⟨?_, hbw.out⟩
  rcases Nat.mod_two_eq_zero_or_one v with h | h <;> rw [h] <;> rfl
end Six
end Go.Proofs.Ytfmmmjaficbchaa
