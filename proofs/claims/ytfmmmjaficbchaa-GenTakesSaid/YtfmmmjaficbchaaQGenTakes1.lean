/- gen: packets that are taken together; and nil traffic. Conditions: a plan that may be, at most 60 packets. -/
import Derived.Test.YtfmmmjaficbchaaQGenPackets1
import Derived.Test.YtfmmmjaficbchaaQNatFlows3
namespace Go.Proofs.Ytfmmmjaficbchaa
open Go.RowKit Go.ChangeShapes Go.WideShapes Go.ChangeAt Go.Deep
namespace Gen35
open Pkt (tuA tuA_one size_tu)
/-- Traffic that nobody made. -/
def NoSrc (w : World) (v : Value) : Prop := v = .pointer none ∨ ∃ s, v = .pointer (some ⟨s, 0, none⟩) ∧ w.cell? ⟨s, 0, none⟩ = some (.pointer none)
theorem none_no (v : Value) (w : World) (h : NoSrc w v) : Calls Try.prog 47 #[v] w fun e w' => e = .returned (.bool true) ∧ w = w' := by
  rcases h with rfl | ⟨s, rfl, hc⟩
  · go_enter Try.func47, Try.ntmps47
    go_wp2_with fail
    go_ret
    exact ⟨rfl, rfl⟩
  · go_enter Try.func47, Try.ntmps47
    go_wp2_with fail
    go_ret
    exact ⟨rfl, rfl⟩
theorem packet_no (v : Value) (w : World) (h : NoSrc w v) : Calls Try.prog 24 #[v] w fun e w' => e = .returned (.slice none 0 0) ∧ w = w' := by
  replace h := hide h
  go_enter Try.func24, Try.ntmps24
  go_wp2_with fail
  refine (none_no v _ h.out).mono ?_
  rintro e w' ⟨rfl, rfl⟩
  go_wp2_with fail
  go_ret
  exact ⟨rfl, rfl⟩
theorem open_no (v : Value) (w : World) (h : NoSrc w v) : Calls Try.prog 26 #[v] w fun e w' => e = .returned (.int .i64 0) ∧ w = w' := by
  replace h := hide h
  go_enter Try.func26, Try.ntmps26
  go_wp2_with fail
  refine (none_no v _ h.out).mono ?_
  rintro e w' ⟨rfl, rfl⟩
  go_wp2_with fail
  go_ret
  exact ⟨rfl, rfl⟩
theorem flow_no (v : Value) (w : World) (h : NoSrc w v) : Calls Try.prog 27 #[v] w fun e w' => e = .returned (.agg Pkt.tuZ) ∧ Below w.heap.size w w' := by
  have h1 : NoSrc (w.alloc (.cells #[.int .i64 0, .bool false, .int .u64 0, .int .u64 0, .bool false, .int .u64 0, .int .u64 0, .int .i64 0, .int .i64 0] 32)) v := by
    rcases h with h | ⟨s, h1, h2⟩
    · exact .inl h
    · exact .inr ⟨s, h1, (World.cell?_of_block (Below.heap_alloc w _ s (World.block_lt_of_cell? w _ h2))).trans h2⟩
  replace h1 := hide h1
  go_enter Try.func27, Try.ntmps27
  go_wp2_with fail
  refine (none_no v _ h1.out).mono ?_
  rintro e w' ⟨rfl, rfl⟩
  go_wp2_with fail
  exact bodyPost_ret (v := .agg Pkt.tuZ) (by simp [results, Try.results27, go_sem]; rfl) rfl ⟨rfl, (Below.refl _ _).alloc (Nat.le_refl _) _⟩
theorem take_no (v : Value) (n : Int) (w : World) (h : NoSrc w v) : Calls Try.prog 29 #[v, .int .i64 n] w fun e w' => e = .returned (.slice none 0 0) ∧ w = w' := by
  replace h := hide h
  obtain ⟨m, hm⟩ : ∃ m, min (max n 0) 65536 = m := ⟨_, rfl⟩
  go_enter Try.func29, Try.ntmps29
  go_wp2_with fail
  go_loopw [5, 9] (fun v i wr => v = .slice none 0 0 ∧ i = .int .i64 0 ∧ w = wr) (fun _ _ _ => 0)
  case atStart => exact ⟨rfl, rfl, rfl⟩
  case round =>
    obtain ⟨rfl, rfl, rfl⟩ := hrel
    by_cases q1 : (0 : Int) < m
    · go_wp2_with fail
      refine (none_no v _ h.out).mono ?_
      rintro e w' ⟨rfl, rfl⟩
      go_wp2_with fail
      go_ret
      exact ⟨rfl, rfl⟩
    · go_wp2_with fail
      go_ret
      exact ⟨rfl, rfl⟩
/-- The states of traffic behind so many packets. -/
def stS (p : PlanL) : Nat → Nat × List (Nat × Nat)
  | 0 => (p.key, [])
  | k + 1 => (pktT p (stS p k).1 (stS p k).2).2
def pkS (p : PlanL) (k : Nat) : List UInt8 := (pktT p (stS p k).1 (stS p k).2).1
theorem stS_inv (p : PlanL) (hR : rightQ p) : ∀ k, (stS p k).2.length ≤ 256 ∧ ∀ x ∈ (stS p k).2, x.1 ≤ 65535 ∧ x.2 ≤ 65535
  | 0 => ⟨by simp [stS], by simp [stS]⟩
  | k + 1 => by
    obtain ⟨h1, h2⟩ := stS_inv p hR k
    exact pktT_inv p hR _ _ h1 h2
def slV (x : Option Addr × Nat × Nat) : Value := .slice x.1 x.2.1 x.2.2
theorem slV_one (x : Option Addr × Nat × Nat) : (slV x).oneCell' = true := rfl
theorem info_sl : (Try.prog.info? 22).map (fun i => (i.zero, i.size, i.bytes)) = some (some (.slice none 0 0), 1, 24) := by kernel_rfl
def OwnS (w : World) (base : Nat) (v : Value) (xs : List (Option Addr × Nat × Nat)) : Prop := rowsP w base 22 1 v xs.length (xs.map slV)
theorem rowsP.apart {w : World} {b b' sz sz' n n' : Nat} {e e' : TypeId} {v v' : Value} {xs xs' : List Value} (h : rowsP w b e sz v n xs) (h' : rowsP w b' e' sz' v' n' xs') (he : e ≠ e') (k : Nat) (hk : v.ownBlock = some k) : v'.ownBlock ≠ some k := by
  intro hk'
  rcases h.2 with ⟨rfl, _⟩ | ⟨g, cap, cur, rfl, _, hg, _⟩
  · cases hk
  rcases h'.2 with ⟨rfl, _⟩ | ⟨g', cap', cur', rfl, _, hg', _⟩
  · cases hk'
  cases hk
  cases hk'
  rw [hg] at hg'
  cases hg'
  exact he rfl
theorem OwnB.rows {w : World} {base : Nat} {v : Value} {xs : List UInt8} (h : OwnB w base v xs) : rowsP w base 5 1 v xs.length (xs.map u8v) :=
  ⟨h.1, h.2.imp id fun ⟨g, cap, cur, h1, h2, h3, h4, h5, h6, h7⟩ => ⟨g, cap, cur, h1, h2, h3, h4, h5, Nat.le_of_eq h6.symm, h7⟩⟩
theorem OwnB.grown {w w' : World} {base : Nat} {v u : Value} {xs : List UInt8} (h : OwnB w base v xs) (hg : w.grownBy w' u.ownBlock) (hu : ∀ k, v.ownBlock = some k → u.ownBlock ≠ some k) : OwnB w' base v xs := by
  refine World.ownsRow.kept h hg ?_
  cases hv : v.ownBlock with
  | none => exact .inl rfl
  | some k => exact .inr (fun e => hu k hv e.symm)
theorem rowsP.grown {w w' : World} {b sz n : Nat} {e : TypeId} {v u : Value} {xs : List Value} (h : rowsP w b e sz v n xs) (hg : w.grownBy w' u.ownBlock) (hu : ∀ k, v.ownBlock = some k → u.ownBlock ≠ some k) : rowsP w' b e sz v n xs := by
  refine rowsP.kept h hg ?_
  cases hv : v.ownBlock with
  | none => exact .inl rfl
  | some k => exact .inr (fun e => hu k hv e.symm)
/-- Packets that were taken. -/
def Taken (w : World) (base : Nat) (p : PlanL) (sl : List (Option Addr × Nat × Nat)) : Prop := ∀ j x, sl[j]? = some x → OwnB w base (slV x) (pkS p j)
def TakeEnd (s g : Nat) (p : PlanL) (n : Nat) (w w' : World) (e : Ending) : Prop := ∃ v sl, e = .returned v ∧ sl.length = n ∧ OwnS w' w.heap.size v sl ∧ Taken w' w.heap.size p sl ∧ GenAt w' g (stS p n).1 ∧ KeptS w.heap.size (fun k => k = g ∨ k = s) w w' ∧ ∃ ov, SrcAt w' s g p ov
set_option maxRecDepth 20000 in
set_option maxHeartbeats 8000000 in
theorem take_any (s g : Nat) (p : PlanL) (n : Nat) (hn : n ≤ 60) (ni : Int) (hni : max ni 0 = (n : Int)) (hR : rightQ p) (hi : p.hi < 18446744073709551616) (lo : p.lo < 18446744073709551616) (hne : g ≠ s) (w : World) (hs : SrcAt w s g p (.slice none 0 0)) (hg : GenAt w g p.key) :
    Calls Try.prog 29 #[.pointer (some ⟨s, 0, none⟩), .int .i64 ni] w fun e w' => TakeEnd s g p n w w' e := by
  have zg := blk_lt hg
  have zs := blk_lt hs
  obtain ⟨mx, hmx⟩ : ∃ m, max ni 0 = m := ⟨_, rfl⟩
  obtain rfl : mx = (n : Int) := hmx.symm.trans hni
  have hmn : min (n : Int) 65536 = (n : Int) := by omega
  replace hs := hide hs
  replace hg := hide hg
  replace hR := hide hR
  go_enter Try.func29, Try.ntmps29
  go_upto_region 3 with fail
  clear hmx hni hmn
  go_wp2_with fail
  go_loopw [5, 9] (fun v i wr => ∃ k : Nat, k ≤ n ∧ i = .int .i64 (k : Int) ∧ ∃ sl ov, sl.length = k ∧ OwnS wr w.heap.size v sl ∧ Taken wr w.heap.size p sl ∧ SrcAt wr s g p ov ∧ GenAt wr g (stS p k).1 ∧ OwnF wr w.heap.size p ov (stS p k).2 ∧ KeptS w.heap.size (fun k => k = g ∨ k = s) w wr) (fun _ i _ => n - (intOf i).toNat)
  case atStart => exact ⟨0, Nat.zero_le _, rfl, [], .slice none 0 0, rfl, rowsP_nil _ _ _ _, fun j x h => by simp at h, hs.out, hg.out, rowsP_nil _ _ _ _, keptS_refl _ _ _⟩
  case round =>
    obtain ⟨k, hk, rfl, sl, ov, hsl, hS, hT, hs, hg, ho, hkw⟩ := hrel
    have zw := hkw.size
    by_cases hlt : k < n
    · have q1 : (k : Int) < (n : Int) := by omega
      obtain ⟨hl1, hl2⟩ := stS_inv p hR.out k
      have hog : ∀ j, ov.ownBlock = some j → w.heap.size ≤ j ∧ j < wr.heap.size := rowsP.lt ho
      have hPk := Packet_any s g (stS p k).1 w.heap.size p ov (stS p k).2 hR.out hi lo hne (fun e => by have := (hog _ e).1; omega) (fun e => by have := (hog _ e).1; omega) hl1 hl2 wr hs hg ho zw
      obtain ⟨r, hr⟩ : ∃ r, pktT p (stS p k).1 (stS p k).2 = r := ⟨_, rfl⟩
      have hr1 : pkS p k = r.1 := by unfold pkS; rw [hr]
      have hr2 : stS p (k + 1) = r.2 := by rw [show stS p (k + 1) = (pktT p (stS p k).1 (stS p k).2).2 from rfl, hr]
      rw [hr] at hPk
      clear hl1 hl2 hr
      replace hsl := hide hsl
      replace hS := hide hS
      replace hT := hide hT
      replace hs := hide hs
      replace hg := hide hg
      replace ho := hide ho
      replace hkw := hide hkw
      replace hPk := hide hPk
      replace hr1 := hide hr1
      replace hr2 := hide hr2
      replace hog := hide hog
      go_wp2_with fail
      refine (none_src s g p ov _ hs.out).mono ?_
      rintro e w2 ⟨rfl, rfl⟩
      go_upto_region 6 with fail
      apply wp_region_lit
      iterate 2 (refine wpList_plain rfl fun K hK => ?_; go_simp; refine hK _ _ ?_; clear hK K)
      refine wpList_plain rfl fun K hK => ?_
      go_simp
      refine (hPk.out).mono ?_
      rintro e w3 ⟨v3, ov', rfl, hv3, hs3, hg3, ho3, hm3, hk3⟩
      have z3 := hk3.size
      have hT3 : Taken w3 w.heap.size p sl := fun j x hj => OwnB.keptS (hT.out j x hj) hk3 (Nat.le_refl _) (fun i e => by
        have h1 := (World.ownsRow.lt (hT.out j x hj) i e).1
        rintro (h | h | h)
        · omega
        · omega
        · exact rowsP.apart (OwnB.rows (hT.out j x hj)) ho.out (by decide) i e h)
      have hS3 : OwnS w3 w.heap.size _ sl := rowsP.keptS hS.out hk3 (Nat.le_refl _) (fun i e => by
        have h1 := (rowsP.lt hS.out i e).1
        rintro (h | h | h)
        · omega
        · omega
        · exact rowsP.apart hS.out ho.out (by decide) i e h)
      have hkw3 : KeptS w.heap.size (fun k => k = g ∨ k = s) w w3 := keptS_trans _ _ _ _ _ hkw.out (keptS_mono hk3 zw (fun i hi h => by
        rcases h with h | h | h
        · exact .inl h
        · exact .inr h
        · have := (hog.out i h).1; omega))
      have hv4 := hv3.weaken (base' := w.heap.size) zw
      obtain ⟨A4, c4, rfl, hc4, hm4, -⟩ := hv3.form
      obtain ⟨x4, hx4⟩ : ∃ x, (A4, r.1.length, c4) = x := ⟨_, rfl⟩
      have hx4v : Value.slice A4 r.1.length c4 = slV x4 := by rw [← hx4]; rfl
      rw [hx4v] at hv4
      obtain ⟨n4, hn4⟩ : ∃ n4, r.1.length = n4 := ⟨_, rfl⟩
      rw [hn4] at hx4v ⊢
      clear hS hT hs hg ho hkw hPk hk3 hm3 hv3
      replace hT3 := hide hT3
      replace hS3 := hide hS3
      replace hkw3 := hide hkw3
      replace hv4 := hide hv4
      replace hs3 := hide hs3
      replace hg3 := hide hg3
      replace ho3 := hide ho3
      replace hx4 := hide hx4
      replace hx4v := hide hx4v
      go_simp
      refine hK _ _ ?_
      clear hK K
      iterate 1 (refine wpList_plain rfl fun K hK => ?_; go_simp; refine hK _ _ ?_; clear hK K)
      obtain ⟨w5, hw5⟩ : ∃ w5, w3.alloc (.cells #[.slice A4 n4 c4] 22) = w5 := ⟨_, rfl⟩
      have hb5 : Below w3.heap.size w3 w5 := hw5 ▸ (Below.refl _ _).alloc (Nat.le_refl _) _
      have hn5 : w5.heap[w3.heap.size]? = some (.cells #[.slice A4 n4 c4] 22 (0, 0)) := hw5 ▸ blk_new _ _ _
      rw [hx4v.out] at hn5
      rw [hw5]
      have hT5 : Taken w5 w.heap.size p sl := fun j x hj => (hT3.out j x hj).below hb5
      have hS5 : OwnS w5 w.heap.size _ sl := rowsP.below hS3.out hb5
      have hv5 := hv4.out.below hb5
      have ho5 := rowsP.below ho3.out hb5
      have hs5 := blk_on hb5 hs3.out
      have hg5 := blk_on hb5 hg3.out
      have hkw5 := keptS_trans _ _ _ _ _ hkw3.out (keptS_of_below (P := fun k => k = g ∨ k = s) hb5 (by omega))
      have z5 := hb5.size
      clear hw5 hb5 hT3 hS3 hkw3 hv4 hs3 hg3 ho3
      obtain ⟨i, hii, hz, hsz, hby⟩ := info_parts info_sl
      have hslL := hsl.out
      refine wpList_plain rfl fun K hK => ?_
      refine wp_app_p (.tmp 13) (.tmp 16) 67 rfl w.heap.size 22 i _ 1 24 Try.underlying67 hii hz hsz hby rfl _ sl.length (sl.map slV) rfl hS5 ⟨w3.heap.size, 0, none⟩ 1 1 [slV x4] rfl rfl (fun j u hu => by rw [Addr.add_lit, Nat.zero_add, blk_cell hn5 j]; simpa using hu) (fun u hu => by rw [List.mem_singleton.1 hu]; exact slV_one _) (by unfold maxLen; omega) (by omega) (by omega) fun v7 w7 h1 h2 h3 => hK _ _ ?_
      clear hK K hn5 hii hz hsz hby
      have hS7 : OwnS w7 w.heap.size v7 (sl ++ [x4]) := by
        unfold OwnS
        rw [List.map_append, List.length_append]
        exact h1
      have hgo := fun j h => (rowsP.lt hS5 j h).1
      have hT7 : Taken w7 w.heap.size p (sl ++ [x4]) := fun j x hj => by
        by_cases hjl : j < sl.length
        · rw [List.getElem?_append_left hjl] at hj
          exact OwnB.grown (hT5 j x hj) h2 (fun i e => rowsP.apart (OwnB.rows (hT5 j x hj)) hS5 (by decide) i e)
        · have hjk : j = k := by
            have := (List.getElem?_eq_some_iff.1 hj).1
            rw [List.length_append, List.length_singleton] at this
            omega
          rw [List.getElem?_append_right (by omega), show j - sl.length = 0 by omega] at hj
          obtain rfl : x4 = x := by simpa using hj
          rw [hjk, hr1.out]
          exact OwnB.grown hv5 h2 (fun i e => rowsP.apart (OwnB.rows hv5) hS5 (by decide) i e)
      have ho7 := rowsP.grown ho5 h2 (fun i e => rowsP.apart ho5 hS5 (by decide) i e)
      have hs7 := (h2.block s (blk_lt hs5) (fun e => by have := hgo s e.symm; omega)).trans hs5
      have hg7 := (h2.block g (blk_lt hg5) (fun e => by have := hgo g e.symm; omega)).trans hg5
      have hkw7 : KeptS w.heap.size (fun k => k = g ∨ k = s) w w7 := ⟨h2.os.trans hkw5.os, h2.tape.trans hkw5.tape, h2.output.trans hkw5.output, Nat.le_trans hkw5.size h2.size, fun j hj hP => (h2.block j (by have := hkw5.size; omega) (fun e => by have := hgo j e.symm; omega)).trans (hkw5.block j hj hP)⟩
      rw [← hr2.out] at hg7 ho7
      have hl7 : (sl ++ [x4]).length = k + 1 := by rw [List.length_append, List.length_singleton, hslL]
      clear h1 h2 h3 hS5 hT5 hv5 ho5 hs5 hg5 hkw5 hgo hslL
      replace hS7 := hide hS7
      replace hT7 := hide hT7
      replace ho7 := hide ho7
      replace hs7 := hide hs7
      replace hg7 := hide hg7
      replace hkw7 := hide hkw7
      replace hl7 := hide hl7
      iterate 1 (refine wpList_plain rfl fun K hK => ?_; go_simp; refine hK _ _ ?_; clear hK K)
      refine wpList_nil ?_
      go_wp2_with fail
      go_roundw
      case rel => exact ⟨k + 1, by omega, by go_num, _, _, hl7.out, hS7.out, hT7.out, hs7.out, hg7.out, ho7.out, hkw7.out⟩
      case measure => simp [intOf]; omega
    · obtain rfl : n = k := by omega
      have q1 : ¬ (n : Int) < (n : Int) := by omega
      replace hsl := hide hsl
      replace hS := hide hS
      replace hT := hide hT
      replace hs := hide hs
      replace hg := hide hg
      replace ho := hide ho
      replace hkw := hide hkw
      go_wp2_with fail
      go_ret
      exact ⟨_, sl, rfl, hsl.out, hS.out, hT.out, hg.out, hkw.out, ov, hs.out⟩
end Gen35
end Go.Proofs.Ytfmmmjaficbchaa
/- The statement GenTakes, walked. Conditions: numbers of 64 bits. -/
namespace Go.Proofs.Ytfmmmjaficbchaa
open Go.RowKit Go.ChangeShapes Go.WideShapes Go.ChangeAt Go.Deep
namespace Gen35
open Pkt (tuA tuA_one size_tu)
def planA (p : PlanL) : Array Value := #[.int .u64 (p.key : Int), .int .i64 p.cl, .int .i64 p.po, .bool p.v6, .int .u64 (p.hi : Int), .int .u64 (p.lo : Int), .int .i64 p.pr, .int .i64 p.vp, .int .i64 p.co, .bool p.na, .int .i64 p.mo]
def srcZ : Array Value := #[.pointer none, .int .u64 0, .int .i64 0, .int .i64 0, .bool false, .int .u64 0, .int .u64 0, .int .i64 0, .int .i64 0, .int .i64 0, .bool false, .int .i64 0, .slice none 0 0]
theorem take_any0 (v : Value) (n : Int) (w : World) (h : NoSrc w v) : Calls Try.prog 29 #[v, .int .i64 n] w fun e w' => e = .returned (.slice none 0 0) ∧ w = w' := take_no v n w h
set_option maxRecDepth 20000 in
set_option maxHeartbeats 8000000 in
theorem takes_no (p : PlanL) (n : Int) (hR : ¬ rightQ p) (w : World) : Calls Try.prog 9 #[.agg (plA p), .int .i64 n] w fun e w' => e = .returned (.bool true) ∧ Below w.heap.size w w' := by
  have hN := fun w => new_no p hR w
  unfold plA at hN ⊢
  obtain ⟨w1, hw1⟩ : ∃ w1, w.alloc (.cells #[.int .u64 (p.key : Int), .int .i64 p.cl, .int .i64 p.po, .bool p.v6, .int .u64 (p.hi : Int), .int .u64 (p.lo : Int), .int .i64 p.pr, .int .i64 p.vp, .int .i64 p.co, .bool p.na, .int .i64 p.mo] 51) = w1 := ⟨_, rfl⟩
  obtain ⟨w2, hw2⟩ : ∃ w2, w1.alloc (.cells #[.pointer none, .int .u64 0, .int .i64 0, .int .i64 0, .bool false, .int .u64 0, .int .u64 0, .int .i64 0, .int .i64 0, .int .i64 0, .bool false, .int .i64 0, .slice none 0 0] 66) = w2 := ⟨_, rfl⟩
  have hb1 : Below w.heap.size w w1 := hw1 ▸ (Below.refl _ _).alloc (Nat.le_refl _) _
  have hb2 : Below w1.heap.size w1 w2 := hw2 ▸ (Below.refl _ _).alloc (Nat.le_refl _) _
  have hp := blk_on hb2 (hw1 ▸ blk_new w 51 #[.int .u64 (p.key : Int), .int .i64 p.cl, .int .i64 p.po, .bool p.v6, .int .u64 (p.hi : Int), .int .u64 (p.lo : Int), .int .i64 p.pr, .int .i64 p.vp, .int .i64 p.co, .bool p.na, .int .i64 p.mo])
  have hz := hw2 ▸ blk_new w1 66 #[.pointer none, .int .u64 0, .int .i64 0, .int .i64 0, .bool false, .int .u64 0, .int .u64 0, .int .i64 0, .int .i64 0, .int .i64 0, .bool false, .int .i64 0, .slice none 0 0]
  have hB := hb1.trans (hb2.mono hb1.size)
  have hzn : NoSrc w2 (.pointer (some ⟨w1.heap.size, 0, none⟩)) := .inr ⟨_, rfl, (blk_cell hz 0).trans rfl⟩
  clear hb1 hb2 hz
  replace hN := hide hN
  replace hB := hide hB
  replace hp := hide hp
  replace hzn := hide hzn
  go_enter Try.func9, Try.ntmps9
  have w00 : IntKind.i64.wrap (0 : Int) = 0 := by decide
  go_upto_region 3 with fail
  clear hw1 hw2
  apply wp_region_lit
  iterate 1 (refine wpList_plain rfl fun K hK => ?_; go_simp; refine hK _ _ ?_; clear hK K)
  refine wpList_plain rfl fun K hK => ?_
  go_simp
  refine (take_no _ 3 _ (.inl rfl)).mono ?_
  rintro e w3 ⟨rfl, rfl⟩
  go_simp
  refine hK _ _ ?_
  clear hK K
  iterate 2 (refine wpList_plain rfl fun K hK => ?_; go_simp; refine hK _ _ ?_; clear hK K)
  refine wpList_plain rfl fun K hK => ?_
  go_simp
  refine (packet_no _ _ (.inl rfl)).mono ?_
  rintro e w3 ⟨rfl, rfl⟩
  go_simp
  refine hK _ _ ?_
  clear hK K
  iterate 3 (refine wpList_plain rfl fun K hK => ?_; go_simp; refine hK _ _ ?_; clear hK K)
  refine wpList_plain rfl fun K hK => ?_
  go_simp
  refine (open_no _ _ (.inl rfl)).mono ?_
  rintro e w3 ⟨rfl, rfl⟩
  go_simp
  refine hK _ _ ?_
  clear hK K
  iterate 1 (refine wpList_plain rfl fun K hK => ?_; go_simp; refine hK _ _ ?_; clear hK K)
  refine wpList_plain rfl fun K hK => ?_
  go_simp
  refine (open_no _ _ hzn.out).mono ?_
  rintro e w3 ⟨rfl, rfl⟩
  go_simp
  refine hK _ _ ?_
  clear hK K
  iterate 3 (refine wpList_plain rfl fun K hK => ?_; go_simp; refine hK _ _ ?_; clear hK K)
  refine wpList_plain rfl fun K hK => ?_
  go_simp
  refine (take_any0 _ _ _ hzn.out).mono ?_
  rintro e w3 ⟨rfl, rfl⟩
  go_simp
  refine hK _ _ ?_
  clear hK K
  iterate 4 (refine wpList_plain rfl fun K hK => ?_; go_simp; refine hK _ _ ?_; clear hK K)
  iterate 1 (refine wpList_step fun K hK => ?_; go_simp; refine hK _ _ ?_; clear hK K)
  refine wpList_step fun K hK => ?_
  go_simp
  refine (flow_no _ _ (.inl rfl)).mono ?_
  rintro e w3 ⟨rfl, hb3⟩
  go_simp
  refine hK _ _ ?_
  clear hK K
  replace hp := hide (blk_on hb3 hp.out)
  replace hB := hide (hB.out.trans (hb3.mono hB.out.size))
  clear hb3 hzn
  iterate 1 (refine wpList_step fun K hK => ?_; go_simp; refine hK _ _ ?_; clear hK K)
  refine wpl_val (.bool false) rfl (neq_tu 0 false 0 0 false 0 0 0 0 _ (.tmp 33) (.tmp 34) rfl rfl rfl w3) ?_
  dsimp only [Act.put]
  iterate 1 (refine wpList_plain rfl fun K hK => ?_; go_simp; refine hK _ _ ?_; clear hK K)
  refine wpList_nil ?_
  have hc := blk_cell hp.out
  go_wp2_with fail
  refine (hN.out _).mono ?_
  rintro e w4 ⟨rfl, hb4⟩
  clear hc
  have hp4 := blk_on hb4 hp.out
  replace hB := hide (hB.out.trans (hb4.mono hB.out.size))
  clear hb4 hp
  have hc := blk_cell hp4
  replace hp4 := hide hp4
  go_wp2_with fail
  clear hc
  refine (hN.out _).mono ?_
  rintro e w5 ⟨rfl, hb5⟩
  have hp5 := blk_on hb5 hp4.out
  replace hB := hide (hB.out.trans (hb5.mono hB.out.size))
  clear hb5 hp4
  replace hp5 := hide hp5
  go_wp2_with fail
  refine (awake_any _).mono ?_
  rintro e w6 ⟨rfl, hb6⟩
  replace hB := hide (hB.out.trans (hb6.mono hB.out.size))
  clear hb6
  go_wp2_with fail
  go_ret
  exact ⟨by rfl, hB.out⟩
set_option maxRecDepth 20000 in
set_option maxHeartbeats 8000000 in
theorem takes_early (p : PlanL) (n : Int) (hR : rightQ p) (hbig : (60 : Int) < n ∨ (100 : Int) < p.mo) (w : World) : Calls Try.prog 9 #[.agg (plA p), .int .i64 n] w fun e w' => e = .returned (.bool true) ∧ Below w.heap.size w w' := by
  have hN := fun w => new_ok p hR w
  unfold plA at hN ⊢
  obtain ⟨w1, hw1⟩ : ∃ w1, w.alloc (.cells #[.int .u64 (p.key : Int), .int .i64 p.cl, .int .i64 p.po, .bool p.v6, .int .u64 (p.hi : Int), .int .u64 (p.lo : Int), .int .i64 p.pr, .int .i64 p.vp, .int .i64 p.co, .bool p.na, .int .i64 p.mo] 51) = w1 := ⟨_, rfl⟩
  obtain ⟨w2, hw2⟩ : ∃ w2, w1.alloc (.cells #[.pointer none, .int .u64 0, .int .i64 0, .int .i64 0, .bool false, .int .u64 0, .int .u64 0, .int .i64 0, .int .i64 0, .int .i64 0, .bool false, .int .i64 0, .slice none 0 0] 66) = w2 := ⟨_, rfl⟩
  have hb1 : Below w.heap.size w w1 := hw1 ▸ (Below.refl _ _).alloc (Nat.le_refl _) _
  have hb2 : Below w1.heap.size w1 w2 := hw2 ▸ (Below.refl _ _).alloc (Nat.le_refl _) _
  have hp := blk_on hb2 (hw1 ▸ blk_new w 51 #[.int .u64 (p.key : Int), .int .i64 p.cl, .int .i64 p.po, .bool p.v6, .int .u64 (p.hi : Int), .int .u64 (p.lo : Int), .int .i64 p.pr, .int .i64 p.vp, .int .i64 p.co, .bool p.na, .int .i64 p.mo])
  have hz := hw2 ▸ blk_new w1 66 #[.pointer none, .int .u64 0, .int .i64 0, .int .i64 0, .bool false, .int .u64 0, .int .u64 0, .int .i64 0, .int .i64 0, .int .i64 0, .bool false, .int .i64 0, .slice none 0 0]
  have hB := hb1.trans (hb2.mono hb1.size)
  have hzn : NoSrc w2 (.pointer (some ⟨w1.heap.size, 0, none⟩)) := .inr ⟨_, rfl, (blk_cell hz 0).trans rfl⟩
  clear hb1 hb2 hz
  replace hN := hide hN
  replace hB := hide hB
  replace hp := hide hp
  replace hzn := hide hzn
  replace hR := hide hR
  go_enter Try.func9, Try.ntmps9
  have w00 : IntKind.i64.wrap (0 : Int) = 0 := by decide
  go_upto_region 3 with fail
  clear hw1 hw2
  apply wp_region_lit
  iterate 1 (refine wpList_plain rfl fun K hK => ?_; go_simp; refine hK _ _ ?_; clear hK K)
  refine wpList_plain rfl fun K hK => ?_
  go_simp
  refine (take_no _ 3 _ (.inl rfl)).mono ?_
  rintro e w3 ⟨rfl, rfl⟩
  go_simp
  refine hK _ _ ?_
  clear hK K
  iterate 2 (refine wpList_plain rfl fun K hK => ?_; go_simp; refine hK _ _ ?_; clear hK K)
  refine wpList_plain rfl fun K hK => ?_
  go_simp
  refine (packet_no _ _ (.inl rfl)).mono ?_
  rintro e w3 ⟨rfl, rfl⟩
  go_simp
  refine hK _ _ ?_
  clear hK K
  iterate 3 (refine wpList_plain rfl fun K hK => ?_; go_simp; refine hK _ _ ?_; clear hK K)
  refine wpList_plain rfl fun K hK => ?_
  go_simp
  refine (open_no _ _ (.inl rfl)).mono ?_
  rintro e w3 ⟨rfl, rfl⟩
  go_simp
  refine hK _ _ ?_
  clear hK K
  iterate 1 (refine wpList_plain rfl fun K hK => ?_; go_simp; refine hK _ _ ?_; clear hK K)
  refine wpList_plain rfl fun K hK => ?_
  go_simp
  refine (open_no _ _ hzn.out).mono ?_
  rintro e w3 ⟨rfl, rfl⟩
  go_simp
  refine hK _ _ ?_
  clear hK K
  iterate 3 (refine wpList_plain rfl fun K hK => ?_; go_simp; refine hK _ _ ?_; clear hK K)
  refine wpList_plain rfl fun K hK => ?_
  go_simp
  refine (take_any0 _ _ _ hzn.out).mono ?_
  rintro e w3 ⟨rfl, rfl⟩
  go_simp
  refine hK _ _ ?_
  clear hK K
  iterate 4 (refine wpList_plain rfl fun K hK => ?_; go_simp; refine hK _ _ ?_; clear hK K)
  iterate 1 (refine wpList_step fun K hK => ?_; go_simp; refine hK _ _ ?_; clear hK K)
  refine wpList_step fun K hK => ?_
  go_simp
  refine (flow_no _ _ (.inl rfl)).mono ?_
  rintro e w3 ⟨rfl, hb3⟩
  go_simp
  refine hK _ _ ?_
  clear hK K
  replace hp := hide (blk_on hb3 hp.out)
  replace hB := hide (hB.out.trans (hb3.mono hB.out.size))
  clear hb3 hzn
  iterate 1 (refine wpList_step fun K hK => ?_; go_simp; refine hK _ _ ?_; clear hK K)
  refine wpl_val (.bool false) rfl (neq_tu 0 false 0 0 false 0 0 0 0 _ (.tmp 33) (.tmp 34) rfl rfl rfl w3) ?_
  dsimp only [Act.put]
  iterate 1 (refine wpList_plain rfl fun K hK => ?_; go_simp; refine hK _ _ ?_; clear hK K)
  refine wpList_nil ?_
  have hc := blk_cell hp.out
  have zB3 := hB.out.size
  go_wp2_with fail
  refine (hN.out _).mono ?_
  rintro e w4 ⟨s1, g1, rfl, zg1, zs1, hne1, hs1, hg1, hb4⟩
  clear hc
  have hp4 := blk_on hb4 hp.out
  replace hB := hide (hB.out.trans (hb4.mono hB.out.size))
  clear hb4 hp
  have hc := blk_cell hp4
  have ys1 := blk_lt hs1
  have yg1 := blk_lt hg1
  have zB4 := hB.out.size
  replace hp4 := hide hp4
  replace hs1 := hide hs1
  replace hg1 := hide hg1
  go_wp2_with fail
  clear hc
  refine (hN.out _).mono ?_
  rintro e w5 ⟨s2, g2, rfl, zg2, zs2, hne2, hs2, hg2, hb5⟩
  have hp5 := blk_on hb5 hp4.out
  replace hs1 := hide (blk_on hb5 hs1.out)
  replace hg1 := hide (blk_on hb5 hg1.out)
  replace hB := hide (hB.out.trans (hb5.mono hB.out.size))
  clear hb5 hp4
  have hc := blk_cell hp5
  have ys2 := blk_lt hs2
  have yg2 := blk_lt hg2
  replace hp5 := hide hp5
  replace hs2 := hide hs2
  replace hg2 := hide hg2
  by_cases q1 : (60 : Int) < n
  · clear hbig
    go_wp2_with fail
    clear hc
    refine (awake_any _).mono ?_
    rintro e w6 ⟨rfl, hb6⟩
    replace hB := hide (hB.out.trans (hb6.mono hB.out.size))
    clear hb6
    go_wp2_with fail
    go_ret
    exact ⟨by rfl, hB.out⟩
  · have q2 : (100 : Int) < p.mo := by omega
    clear hbig
    go_wp2_with fail
    clear hc
    refine (awake_any _).mono ?_
    rintro e w6 ⟨rfl, hb6⟩
    replace hB := hide (hB.out.trans (hb6.mono hB.out.size))
    clear hb6
    go_wp2_with fail
    go_ret
    exact ⟨by rfl, hB.out⟩
set_option maxRecDepth 20000 in
set_option maxHeartbeats 8000000 in
theorem takes_ok (p : PlanL) (n : Int) (hR : rightQ p) (hi : p.hi < 18446744073709551616) (lo : p.lo < 18446744073709551616) (hn60 : ¬ (60 : Int) < n) (hmo : ¬ (100 : Int) < p.mo) (w : World) : Calls Try.prog 9 #[.agg (plA p), .int .i64 n] w fun e w' => e = .returned (.bool true) ∧ Below w.heap.size w w' := by
  have hN := fun w => new_ok p hR w
  unfold plA at hN ⊢
  obtain ⟨w1, hw1⟩ : ∃ w1, w.alloc (.cells #[.int .u64 (p.key : Int), .int .i64 p.cl, .int .i64 p.po, .bool p.v6, .int .u64 (p.hi : Int), .int .u64 (p.lo : Int), .int .i64 p.pr, .int .i64 p.vp, .int .i64 p.co, .bool p.na, .int .i64 p.mo] 51) = w1 := ⟨_, rfl⟩
  obtain ⟨w2, hw2⟩ : ∃ w2, w1.alloc (.cells #[.pointer none, .int .u64 0, .int .i64 0, .int .i64 0, .bool false, .int .u64 0, .int .u64 0, .int .i64 0, .int .i64 0, .int .i64 0, .bool false, .int .i64 0, .slice none 0 0] 66) = w2 := ⟨_, rfl⟩
  have hb1 : Below w.heap.size w w1 := hw1 ▸ (Below.refl _ _).alloc (Nat.le_refl _) _
  have hb2 : Below w1.heap.size w1 w2 := hw2 ▸ (Below.refl _ _).alloc (Nat.le_refl _) _
  have hp := blk_on hb2 (hw1 ▸ blk_new w 51 #[.int .u64 (p.key : Int), .int .i64 p.cl, .int .i64 p.po, .bool p.v6, .int .u64 (p.hi : Int), .int .u64 (p.lo : Int), .int .i64 p.pr, .int .i64 p.vp, .int .i64 p.co, .bool p.na, .int .i64 p.mo])
  have hz := hw2 ▸ blk_new w1 66 #[.pointer none, .int .u64 0, .int .i64 0, .int .i64 0, .bool false, .int .u64 0, .int .u64 0, .int .i64 0, .int .i64 0, .int .i64 0, .bool false, .int .i64 0, .slice none 0 0]
  have hB := hb1.trans (hb2.mono hb1.size)
  have hzn : NoSrc w2 (.pointer (some ⟨w1.heap.size, 0, none⟩)) := .inr ⟨_, rfl, (blk_cell hz 0).trans rfl⟩
  clear hb1 hb2 hz
  replace hN := hide hN
  replace hB := hide hB
  replace hp := hide hp
  replace hzn := hide hzn
  replace hR := hide hR
  go_enter Try.func9, Try.ntmps9
  have w00 : IntKind.i64.wrap (0 : Int) = 0 := by decide
  go_upto_region 3 with fail
  clear hw1 hw2
  apply wp_region_lit
  iterate 1 (refine wpList_plain rfl fun K hK => ?_; go_simp; refine hK _ _ ?_; clear hK K)
  refine wpList_plain rfl fun K hK => ?_
  go_simp
  refine (take_no _ 3 _ (.inl rfl)).mono ?_
  rintro e w3 ⟨rfl, rfl⟩
  go_simp
  refine hK _ _ ?_
  clear hK K
  iterate 2 (refine wpList_plain rfl fun K hK => ?_; go_simp; refine hK _ _ ?_; clear hK K)
  refine wpList_plain rfl fun K hK => ?_
  go_simp
  refine (packet_no _ _ (.inl rfl)).mono ?_
  rintro e w3 ⟨rfl, rfl⟩
  go_simp
  refine hK _ _ ?_
  clear hK K
  iterate 3 (refine wpList_plain rfl fun K hK => ?_; go_simp; refine hK _ _ ?_; clear hK K)
  refine wpList_plain rfl fun K hK => ?_
  go_simp
  refine (open_no _ _ (.inl rfl)).mono ?_
  rintro e w3 ⟨rfl, rfl⟩
  go_simp
  refine hK _ _ ?_
  clear hK K
  iterate 1 (refine wpList_plain rfl fun K hK => ?_; go_simp; refine hK _ _ ?_; clear hK K)
  refine wpList_plain rfl fun K hK => ?_
  go_simp
  refine (open_no _ _ hzn.out).mono ?_
  rintro e w3 ⟨rfl, rfl⟩
  go_simp
  refine hK _ _ ?_
  clear hK K
  iterate 3 (refine wpList_plain rfl fun K hK => ?_; go_simp; refine hK _ _ ?_; clear hK K)
  refine wpList_plain rfl fun K hK => ?_
  go_simp
  refine (take_any0 _ _ _ hzn.out).mono ?_
  rintro e w3 ⟨rfl, rfl⟩
  go_simp
  refine hK _ _ ?_
  clear hK K
  iterate 4 (refine wpList_plain rfl fun K hK => ?_; go_simp; refine hK _ _ ?_; clear hK K)
  iterate 1 (refine wpList_step fun K hK => ?_; go_simp; refine hK _ _ ?_; clear hK K)
  refine wpList_step fun K hK => ?_
  go_simp
  refine (flow_no _ _ (.inl rfl)).mono ?_
  rintro e w3 ⟨rfl, hb3⟩
  go_simp
  refine hK _ _ ?_
  clear hK K
  replace hp := hide (blk_on hb3 hp.out)
  replace hB := hide (hB.out.trans (hb3.mono hB.out.size))
  clear hb3 hzn
  iterate 1 (refine wpList_step fun K hK => ?_; go_simp; refine hK _ _ ?_; clear hK K)
  refine wpl_val (.bool false) rfl (neq_tu 0 false 0 0 false 0 0 0 0 _ (.tmp 33) (.tmp 34) rfl rfl rfl w3) ?_
  dsimp only [Act.put]
  iterate 1 (refine wpList_plain rfl fun K hK => ?_; go_simp; refine hK _ _ ?_; clear hK K)
  refine wpList_nil ?_
  have hc := blk_cell hp.out
  have zB3 := hB.out.size
  go_wp2_with fail
  refine (hN.out _).mono ?_
  rintro e w4 ⟨s1, g1, rfl, zg1, zs1, hne1, hs1, hg1, hb4⟩
  clear hc
  have hp4 := blk_on hb4 hp.out
  replace hB := hide (hB.out.trans (hb4.mono hB.out.size))
  clear hb4 hp
  have hc := blk_cell hp4
  have ys1 := blk_lt hs1
  have yg1 := blk_lt hg1
  have zB4 := hB.out.size
  replace hp4 := hide hp4
  replace hs1 := hide hs1
  replace hg1 := hide hg1
  go_wp2_with fail
  clear hc
  refine (hN.out _).mono ?_
  rintro e w5 ⟨s2, g2, rfl, zg2, zs2, hne2, hs2, hg2, hb5⟩
  have hp5 := blk_on hb5 hp4.out
  replace hs1 := hide (blk_on hb5 hs1.out)
  replace hg1 := hide (blk_on hb5 hg1.out)
  replace hB := hide (hB.out.trans (hb5.mono hB.out.size))
  clear hb5 hp4
  have hc := blk_cell hp5
  have ys2 := blk_lt hs2
  have yg2 := blk_lt hg2
  replace hp5 := hide hp5
  replace hs2 := hide hs2
  replace hg2 := hide hg2
  obtain ⟨N, hNn⟩ : ∃ N : Nat, max n 0 = (N : Int) := ⟨(max n 0).toNat, by omega⟩
  have hN60 : N ≤ 60 := by omega
  have hTk := fun hs hg => take_any s1 g1 p N hN60 n hNn hR.out hi lo hne1 w5 hs hg
  have zB5 := hB.out.size
  replace hTk := hide hTk
  replace hNn := hide hNn
  replace hN := hide hN
  go_upto_region 9 with fail
  clear hc
  go_wp2_with fail
  refine (hTk.out hs1.out hg1.out).mono ?_
  rintro e wT ⟨v, sl, rfl, hsl, hS, hT, hg1T, hkT, ov1, hs1T⟩
  have hs2T := (hkT.block s2 ys2 (by rintro (h | h) <;> omega)).trans hs2.out
  have hg2T := (hkT.block g2 yg2 (by rintro (h | h) <;> omega)).trans hg2.out
  have hBT : Below w.heap.size w wT := hB.out.trans (below_of_kept (B := w.heap.size) hkT zB5 (by rintro k (h | h) <;> omega))
  have zT := hkT.size
  have hSl := rowsP.lt hS
  have hvf : ∃ A c, v = .slice A N c := by
    rcases hS.2 with ⟨rfl, h0⟩ | ⟨g, cap, cur, rfl, _⟩
    · exact ⟨none, 0, by rw [show N = 0 by omega]⟩
    · exact ⟨_, _, by rw [hsl]⟩
  obtain ⟨A, c, rfl⟩ := hvf
  clear hkT hB hs1 hg1 hs2 hg2 hTk hp5
  replace hsl := hide hsl
  replace hS := hide hS
  replace hT := hide hT
  replace hg1T := hide hg1T
  replace hs1T := hide hs1T
  replace hs2T := hide hs2T
  replace hg2T := hide hg2T
  replace hBT := hide hBT
  replace hSl := hide hSl
  go_upto_if 75 with fail
  go_cut [1] (fun a wx => a = .int .i64 (N : Int) ∧ wT = wx)
  case first =>
    have h1 := hNn.out
    by_cases q1 : n < 0
    · obtain rfl : N = 0 := by omega
      go_wp2_with fail
      go_meet
      exact ⟨rfl, rfl⟩
    · obtain rfl : n = (N : Int) := by omega
      go_wp2_with fail
      go_meet
      exact ⟨rfl, rfl⟩
  case rest =>
  obtain ⟨rfl, rfl⟩ := hcut
  go_wp2_with fail
  go_loopw [12] (fun i wr => ∃ k : Nat, k ≤ N ∧ i = .int .i64 (k : Int) ∧ ∃ ov, KeptS wT.heap.size (fun j => j = g2 ∨ j = s2) wT wr ∧ SrcAt wr s2 g2 p ov ∧ GenAt wr g2 (stS p k).1 ∧ OwnF wr wT.heap.size p ov (stS p k).2) (fun i _ => N - (intOf i).toNat)
  case atStart => exact ⟨0, Nat.zero_le _, rfl, _, keptS_refl _ _ _, hs2T.out, hg2T.out, rowsP_nil _ _ _ _⟩
  case round =>
    obtain ⟨k, hk, rfl, ov, hkw, hs, hg, ho⟩ := hrel
    have zw := hkw.size
    have hBr : Below w.heap.size w wr := hBT.out.trans (below_of_kept (B := w.heap.size) hkw (by omega) (by rintro j (h | h) <;> omega))
    by_cases hlt : k < N
    · have q1 : (k : Int) < (N : Int) := by omega
      have q2 : (0 : Int) ≤ (k : Int) := by omega
      obtain ⟨hl1, hl2⟩ := stS_inv p hR.out k
      have hog : ∀ j, ov.ownBlock = some j → wT.heap.size ≤ j ∧ j < wr.heap.size := rowsP.lt ho
      have hPk := fun w hs hg ho hb => Packet_any s2 g2 (stS p k).1 wT.heap.size p ov (stS p k).2 hR.out hi lo hne2 (fun e => by have := (hog _ e).1; omega) (fun e => by have := (hog _ e).1; omega) hl1 hl2 w hs hg ho hb
      obtain ⟨x, hx⟩ : ∃ x, sl[k]? = some x := ⟨sl[k]'(by have := hsl.out; omega), List.getElem?_eq_getElem _⟩
      have hSr : OwnS wr w5.heap.size (.slice A N c) sl := rowsP.keptS hS.out hkw (Nat.le_refl _) (fun j e => by have := (hSl.out j e); rintro (h | h) <;> omega)
      have hTx := hT.out k x hx
      have hTl := fun j e => World.ownsRow.lt hTx j e
      have hTr : OwnB wr w5.heap.size (slV x) (pkS p k) := OwnB.keptS hTx hkw (Nat.le_refl _) (fun j e => by have := (hTl j e); rintro (h | h) <;> omega)
      obtain ⟨gl, cl, hgl, hgl1, hgl2, -, -, hcl⟩ := rowsP.form hSr (by have := hsl.out; omega)
      cases hgl
      have hck := hcl k (slV x) (by rw [List.getElem?_map, hx]; rfl)
      have hgT : gl < wT.heap.size := (hSl.out gl rfl).2
      obtain ⟨r, hr⟩ : ∃ r, pktT p (stS p k).1 (stS p k).2 = r := ⟨_, rfl⟩
      have hr1 : pkS p k = r.1 := by unfold pkS; rw [hr]
      have hr2 : stS p (k + 1) = r.2 := by rw [show stS p (k + 1) = (pktT p (stS p k).1 (stS p k).2).2 from rfl, hr]
      rw [hr] at hPk
      rw [hr1] at hTr
      obtain ⟨A3, n3, c3⟩ := x
      obtain ⟨sb, hsb⟩ : ∃ sb, str r.1 = sb := ⟨_, rfl⟩
      have hTP : ∀ j, (slV (A3, n3, c3)).ownBlock = some j → ¬ (j = g2 ∨ j = s2 ∨ ov.ownBlock = some j) := fun j e => by
        have h1 := hTl j e
        rintro (h | h | h)
        · omega
        · omega
        · have := (hog j h).1; omega
      clear hl1 hl2 hr hcl hSr hTx hTl hx
      replace hkw := hide hkw
      replace hs := hide hs
      replace hg := hide hg
      replace ho := hide ho
      replace hBr := hide hBr
      replace hPk := hide hPk
      replace hTr := hide hTr
      replace hck := hide hck
      replace hr1 := hide hr1
      replace hr2 := hide hr2
      replace hsb := hide hsb
      replace hog := hide hog
      go_upto_region 17 with fail
      refine wp_region_X (KeptS wr.heap.size (fun j => j = g2 ∨ j = s2 ∨ ov.ownBlock = some j)) (by as_aux_lemma => kernel_rfl) ?_
      intro wd hbd
      have hsd := blk_on hbd hs.out
      have hgd := blk_on hbd hg.out
      have hod := rowsP.below ho.out hbd
      have zd := hbd.size
      have hcL := fun l : RelW (KeptS wr.heap.size (fun j => j = g2 ∨ j = s2 ∨ ov.ownBlock = some j)) wd => (World.cell?_of_block ((l.hk.block gl hgl2 (by rintro (h | h | h); omega; omega; have := (hog.out gl h).1; omega)).trans (hbd.block gl hgl2))).trans hck.out
      have hst1 := fun l : RelW (KeptS wr.heap.size (fun j => j = g2 ∨ j = s2 ∨ ov.ownBlock = some j)) wd => (OwnB.reads (OwnB.keptS hTr.out (keptS_trans _ _ _ _ _ (keptS_of_below hbd (Nat.le_refl _)) l.hk) (Nat.le_refl _) hTP)).2.2.2.str c3
      rw [hsb.out] at hst1
      unfold slV at hcL
      dsimp only at hcL hst1
      refine wpX_seg (KeptS wr.heap.size (fun j => j = g2 ∨ j = s2 ∨ ov.ownBlock = some j)) 0 6 (fuel := 3) (by as_aux_lemma => kernel_rfl) (fun d _ _ _ _ h => by cases d <;> exact h) (by as_aux_lemma => kernel_rfl) (by as_aux_lemma => kernel_rfl) ?_
      simp only [List.drop_zero, List.take_succ_cons, List.take_zero]
      iterate 6 (refine wpQX_step (fun K hK => ?_); go_simp; refine hK _ ?_; clear hK K)
      refine wpQF_nil ?_
      clear hcL hst1
      refine wpF_step 6 rfl (by as_aux_lemma => kernel_rfl) (fun K hK => ?_)
      go_simp
      go_at_call 24
      refine (hPk.out _ hsd hgd hod (by omega)).mono ?_
      rintro e w8 ⟨v8, ov', rfl, hv8, hs8, hg8, ho8, hm8, hk8⟩
      refine hK _ _ (keptS_mono hk8 zd (fun j _ h => h)) ?_
      clear hK K
      obtain ⟨A8, c8, rfl, hc8, hm88, hi8⟩ := hv8.form
      have hst2 := hi8.str c8
      rw [hsb.out] at hst2
      have hkw8 := keptS_trans _ _ _ _ _ hkw.out (keptS_trans _ _ _ _ _ (keptS_of_below (S := wT.heap.size) (P := fun j => j = g2 ∨ j = s2) hbd (by omega)) (keptS_mono hk8 (by omega) (fun j hj h => by
        rcases h with h | h | h
        · exact .inl h
        · exact .inr h
        · have := (hog.out j h).1; omega)))
      clear hk8 hm8 hv8 hi8 hsd hgd hod hbd
      rw [← hr2.out] at hg8 ho8
      obtain ⟨n8, hn8⟩ : ∃ n, r.1.length = n := ⟨_, rfl⟩
      rw [hn8] at hst2 ⊢
      replace hs8 := hide hs8
      replace hg8 := hide hg8
      replace ho8 := hide ho8
      replace hkw8 := hide hkw8
      refine wpF_step 7 rfl (by as_aux_lemma => kernel_rfl) (fun K hK => ?_)
      go_simp
      refine hK _ _ (IsRel.refl _) ?_
      clear hK K
      clear hst2
      refine wpF_step 8 rfl (by as_aux_lemma => kernel_rfl) (fun K hK => ?_)
      go_simp
      refine hK _ _ (IsRel.refl _) ?_
      clear hK K
      refine wpF_done (by as_aux_lemma => kernel_rfl) ?_ 0
      go_wp2_with fail
      go_roundw
      case rel => exact ⟨k + 1, by omega, by go_num, _, hkw8.out, hs8.out, hg8.out, ho8.out⟩
      case measure => simp [intOf]; omega
    · obtain rfl : N = k := by omega
      have q1 : ¬ (N : Int) < (N : Int) := by omega
      have hs1r := (hkw.block s1 (by have := blk_lt hs1T.out; omega) (by rintro (h | h) <;> omega)).trans hs1T.out
      have hg1r := (hkw.block g1 (by have := blk_lt hg1T.out; omega) (by rintro (h | h) <;> omega)).trans hg1T.out
      obtain ⟨aN, haN⟩ : ∃ a, (stS p N).1 = a := ⟨_, rfl⟩
      rw [haN] at hg hg1r
      have ls1 := blk_lt hs1r
      have ls2 := blk_lt hs
      have lg2 := blk_lt hg
      have hB2 := hBr
      clear hlt hk ho hkw hBr
      replace hs := hide hs
      replace hg := hide hg
      replace hs1r := hide hs1r
      replace hg1r := hide hg1r
      replace hB2 := hide hB2
      replace haN := hide haN
      go_upto_region 19 with fail
      refine wp_region_X (KeptS wr.heap.size (fun j => j = g1 ∨ j = g2)) (by as_aux_lemma => kernel_rfl) ?_
      intro wd hbd
      have hc1 := fun l : RelW (KeptS wr.heap.size (fun j => j = g1 ∨ j = g2)) wd => (blk_cell ((l.hk.block s1 ls1 (by rintro (h | h) <;> omega)).trans (blk_on hbd hs1r.out)) 0).trans (show (srcA g1 p ov1)[0]? = some (.pointer (some ⟨g1, 0, none⟩)) from rfl)
      have hc2 := fun l : RelW (KeptS wr.heap.size (fun j => j = g1 ∨ j = g2)) wd => (blk_cell ((l.hk.block s2 ls2 (by rintro (h | h) <;> omega)).trans (blk_on hbd hs.out)) 0).trans (show (srcA g2 p ov)[0]? = some (.pointer (some ⟨g2, 0, none⟩)) from rfl)
      have hg1d := blk_on hbd hg1r.out
      have hg2d := blk_on hbd hg.out
      have hBd := hB2.out.trans (hbd.mono hB2.out.size)
      have zd := hbd.size
      clear hbd
      refine wpX_seg (KeptS wr.heap.size (fun j => j = g1 ∨ j = g2)) 0 4 (fuel := 11) (by as_aux_lemma => kernel_rfl) (fun d _ _ _ _ h => by cases d <;> exact h) (by as_aux_lemma => kernel_rfl) (by as_aux_lemma => kernel_rfl) ?_
      simp only [List.drop_zero, List.take_succ_cons, List.take_zero]
      iterate 4 (refine wpQX_step (fun K hK => ?_); go_simp; refine hK _ ?_; clear hK K)
      refine wpQF_nil ?_
      refine wpX_seg (KeptS wr.heap.size (fun j => j = g1 ∨ j = g2)) 5 4 (fuel := 7) (by as_aux_lemma => kernel_rfl) (fun d _ _ _ _ h => by cases d <;> exact h) (by as_aux_lemma => kernel_rfl) (by as_aux_lemma => kernel_rfl) ?_
      simp only [List.drop_succ_cons, List.drop_zero, List.take_succ_cons, List.take_zero]
      iterate 4 (refine wpQX_step (fun K hK => ?_); go_simp; refine hK _ ?_; clear hK K)
      refine wpQF_nil ?_
      clear hc1 hc2
      refine wpF_step 4 rfl (by as_aux_lemma => kernel_rfl) (fun K hK => ?_)
      go_simp
      go_at_call 30
      refine (next_any g1 aN _ hg1d).mono ?_
      rintro e w8 ⟨rfl, hg18, g8⟩
      refine hK _ _ (keptS_grown g8 zd (.inr (.inl rfl))) ?_
      clear hK K
      have hg28 := grown_other g8 (blk_lt hg2d) (by omega) hg2d
      have hB8 := hBd.trans (below_grown g8 hBd.size (by omega))
      have z8 := g8.size
      clear g8 hg1d hg2d hBd
      replace hg28 := hide hg28
      replace hB8 := hide hB8
      replace hg18 := hide hg18
      refine wpF_step 9 rfl (by as_aux_lemma => kernel_rfl) (fun K hK => ?_)
      go_simp
      go_at_call 30
      refine (next_any g2 aN _ hg28.out).mono ?_
      rintro e w9 ⟨rfl, hg29, g9⟩
      refine hK _ _ (keptS_grown g9 (by omega) (.inr (.inr rfl))) ?_
      clear hK K
      have hB9 := hB8.out.trans (below_grown g9 hB8.out.size (by omega))
      have z9 := g9.size
      clear g9 hg28 hB8 hg18 hg29
      replace hB9 := hide hB9
      refine wpF_step 10 rfl (by as_aux_lemma => kernel_rfl) (fun K hK => ?_)
      go_simp
      refine hK _ _ (IsRel.refl _) ?_
      clear hK K
      refine wpF_step 11 rfl (by as_aux_lemma => kernel_rfl) (fun K hK => ?_)
      go_simp
      refine hK _ _ (IsRel.refl _) ?_
      clear hK K
      refine wpF_step 12 rfl (by as_aux_lemma => kernel_rfl) (fun K hK => ?_)
      go_simp
      go_at_call 23
      refine (awake_any _).mono ?_
      rintro e w10 ⟨rfl, hb10⟩
      refine hK _ _ (keptS_of_below hb10 (by omega)) ?_
      clear hK K
      have hB10 := hB9.out.trans (hb10.mono hB9.out.size)
      clear hb10 hB9
      replace hB10 := hide hB10
      refine wpF_step 13 rfl (by as_aux_lemma => kernel_rfl) (fun K hK => ?_)
      go_simp
      refine hK _ _ (IsRel.refl _) ?_
      clear hK K
      refine wpF_step 14 rfl (by as_aux_lemma => kernel_rfl) (fun K hK => ?_)
      go_simp
      refine hK _ _ (IsRel.refl _) ?_
      clear hK K
      refine wpF_done (by as_aux_lemma => kernel_rfl) ?_ 0
      go_wp2_with fail
      go_ret
      exact ⟨by rfl, hB10.out⟩
theorem genTakes_walk (key cl po : Int) (v6 : Bool) (hi lo : Int) (pr vp co : Int) (na : Bool) (mo n : Int) (w : World) (h1 : (Lit.int .u64 key).wf = true) (_ : (Lit.int .i64 cl).wf = true) (_ : (Lit.int .i64 po).wf = true) (h2 : (Lit.int .u64 hi).wf = true) (h3 : (Lit.int .u64 lo).wf = true) (_ : (Lit.int .i64 pr).wf = true) (_ : (Lit.int .i64 vp).wf = true) (_ : (Lit.int .i64 co).wf = true) (_ : (Lit.int .i64 mo).wf = true) (_ : (Lit.int .i64 n).wf = true) :
    Calls Try.prog 9 #[.agg #[.int .u64 key, .int .i64 cl, .int .i64 po, .bool v6, .int .u64 hi, .int .u64 lo, .int .i64 pr, .int .i64 vp, .int .i64 co, .bool na, .int .i64 mo], .int .i64 n] w fun e w' => e = .returned (.bool true) ∧ Below w.heap.size w w' := by
  have q1 := u64_wf h1
  have q2 := u64_wf h2
  have q3 := u64_wf h3
  obtain ⟨k, rfl⟩ : ∃ a : Nat, key = (a : Int) := ⟨key.toNat, by omega⟩
  obtain ⟨a, rfl⟩ : ∃ a : Nat, hi = (a : Int) := ⟨hi.toNat, by omega⟩
  obtain ⟨b, rfl⟩ : ∃ a : Nat, lo = (a : Int) := ⟨lo.toNat, by omega⟩
  by_cases hR : rightQ ⟨k, cl, po, v6, a, b, pr, vp, co, na, mo⟩
  · by_cases hm : (60 : Int) < n ∨ (100 : Int) < mo
    · exact takes_early ⟨k, cl, po, v6, a, b, pr, vp, co, na, mo⟩ n hR hm w
    · exact takes_ok ⟨k, cl, po, v6, a, b, pr, vp, co, na, mo⟩ n hR (by show a < _; omega) (by show b < _; omega) (by omega) (by show ¬ (100 : Int) < mo; omega) w
  · exact takes_no ⟨k, cl, po, v6, a, b, pr, vp, co, na, mo⟩ n hR w
end Gen35
end Go.Proofs.Ytfmmmjaficbchaa
