/- pkt.Datagram and pkt.Segment, by contract: which bytes they make, or why none. Conditions: slices of bytes that read as lists, at most 4000 bytes, numbers of 64 bits. -/
import Derived.Test.YtdmgbngdpjcliaaQPktBig14
import Derived.Test.YtdmgbngdpjcliaaQPktBig15
import Derived.Test.YtdmgbngdpjcliaaQPktBig13
import Derived.Test.YtdmgbngdpjcliaaQPktBig4
namespace Go.Proofs.Ytdmgbngdpjcliaa
open Go.RowKit Go.ChangeShapes Go.WideShapes Go.ChangeAt Go.Deep
namespace Pkt
/-- What goes ahead of a check. -/
def aheadB (v6 : Bool) (shi slo dhi dlo pr sz : Nat) : List UInt8 := if v6 = true then Six.pseudoB shi slo dhi dlo sz pr else ((beB slo 4 ++ beB dlo 4) ++ [0, UInt8.ofNat pr]) ++ beB sz 2
/-- What a header makes of bytes. -/
def wrapB (v6 : Bool) (shi slo dhi dlo pr : Nat) (ttl : Int) (U : List UInt8) : List UInt8 := if v6 = true then Six.allB6 0 0 ttl.toNat shi slo dhi dlo pr [] U else Four.hdB 0 0 0 ttl.toNat pr slo dlo [] U.length ++ U
def wrapK (v6 : Bool) (ttl shi slo dhi dlo : Int) : Nat := if v6 = true then ttlK ttl else fourK ttl shi slo dhi dlo
def dgmK (pr : Int) (sv : Bool) (shi slo : Int) (dv : Bool) (dhi dlo sp dp ttl : Int) : Nat := if pr ≠ 17 ∨ sv ≠ dv then 1 else if dgK sp dp = 0 then wrapK sv ttl shi slo dhi dlo else dgK sp dp
def sgmK (pr : Int) (sv : Bool) (shi slo : Int) (dv : Bool) (dhi dlo sp dp fl ttl : Int) : Nat := if pr ≠ 6 ∨ sv ≠ dv then 1 else if sgK sp dp fl = 0 then wrapK sv ttl shi slo dhi dlo else sgK sp dp fl
def dgU (sv : Bool) (shi slo dhi dlo : Nat) (sp dp : Int) (xs : List UInt8) : List UInt8 := Udp.dgB (aheadB sv shi slo dhi dlo 17 (8 + xs.length)) sp.toNat dp.toNat xs
def sgU (sv : Bool) (shi slo dhi dlo : Nat) (sp dp fl : Int) (xs : List UInt8) : List UInt8 := Tcp.sgB (aheadB sv shi slo dhi dlo 6 (20 + xs.length)) sp.toNat dp.toNat fl.toNat xs
theorem dgU_length (sv : Bool) (shi slo dhi dlo : Nat) (sp dp : Int) (xs : List UInt8) : (dgU sv shi slo dhi dlo sp dp xs).length = 8 + xs.length := by
  unfold dgU Udp.dgB
  rw [setB_length _ _ _ (by rw [Udp.dg0_length, beB_length]; omega), Udp.dg0_length]
theorem sgU_length (sv : Bool) (shi slo dhi dlo : Nat) (sp dp fl : Int) (xs : List UInt8) : (sgU sv shi slo dhi dlo sp dp fl xs).length = 20 + xs.length := by
  unfold sgU Tcp.sgB
  rw [setB_length _ _ _ (by rw [Tcp.sg0_length, beB_length]; omega), Tcp.sg0_length]
set_option maxRecDepth 20000 in
set_option maxHeartbeats 8000000 in
theorem datagram_no (pr : Int) (sv : Bool) (shi slo : Int) (dv : Bool) (dhi dlo sp dp ttl : Int) (A : Option Addr) (n c : Nat) (w : World) (h : pr ≠ 17 ∨ sv ≠ dv) :
    Calls Try.prog 34 #[.agg (tuA pr sv shi slo dv dhi dlo sp dp), .int .i64 ttl, .slice A n c] w fun e w' => InEnd 1 [] w w' e := by
  have hb : Below w.heap.size w ((w.alloc (.cells (tuA pr sv shi slo dv dhi dlo sp dp) 56)).alloc (.cells #[.slice A n c] 22)) := ((Below.refl _ _).alloc (Nat.le_refl _) _).alloc (by simp) _
  unfold tuA at hb ⊢
  by_cases hp : pr = 17
  · subst hp
    have hs : sv ≠ dv := by simpa using h
    replace hb := hide hb
    clear h
    cases sv with
    | false =>
      cases dv with
      | false => exact absurd rfl hs
      | true =>
        clear hs
        go_enter Try.func34, Try.ntmps34
        go_wp2_with fail
        go_ret2
        exact .no (K := 1) _ (by omega) hb.out
    | true =>
      cases dv with
      | true => exact absurd rfl hs
      | false =>
        clear hs
        go_enter Try.func34, Try.ntmps34
        go_wp2_with fail
        go_ret2
        exact .no (K := 1) _ (by omega) hb.out
  · have hp2 : (pr != 17) = true := by simpa using hp
    replace hb := hide hb
    clear h hp
    go_enter Try.func34, Try.ntmps34
    go_wp2_with fail
    go_ret2
    exact .no (K := 1) _ (by omega) hb.out
set_option maxRecDepth 20000 in
set_option maxHeartbeats 8000000 in
theorem datagram_six (shi slo dhi dlo : Nat) (sp dp ttl : Int) (A : Option Addr) (n c : Nat) (xs : List UInt8) (w : World) (hx : IsB w w.heap.size A n xs) (hn : n ≤ 4000)
    (h4 : shi < 18446744073709551616) (h5 : slo < 18446744073709551616) (h6 : dhi < 18446744073709551616) (h7 : dlo < 18446744073709551616) :
    Calls Try.prog 34 #[.agg (tuA 17 true shi slo true dhi dlo sp dp), .int .i64 ttl, .slice A n c] w fun e w' => InEnd (dgmK 17 true shi slo true dhi dlo sp dp ttl) (wrapB true shi slo dhi dlo 17 ttl (dgU true shi slo dhi dlo sp dp xs)) w w' e := by
  obtain ⟨w1, hw1⟩ : ∃ w1, (w.alloc (.cells (tuA 17 true shi slo true dhi dlo sp dp) 56)).alloc (.cells #[.slice A n c] 22) = w1 := ⟨_, rfl⟩
  have hb1 : Below w.heap.size w w1 := hw1 ▸ ((Below.refl _ _).alloc (Nat.le_refl _) _).alloc (by simp) _
  have hg1 : w1.heap[w.heap.size]? = some (.cells (tuA 17 true shi slo true dhi dlo sp dp) 56 (0, 0)) := hw1 ▸ blk_old _ (by simp) (blk_new _ _ _)
  have hg2 : w1.heap[w.heap.size + 1]? = some (.cells #[.slice A n c] 22 (0, 0)) := hw1 ▸ (by simpa using blk_new (w.alloc (.cells (tuA 17 true shi slo true dhi dlo sp dp) 56)) 22 #[.slice A n c])
  have hz1 : w.heap.size + 1 < w1.heap.size := by rw [← hw1]; simp
  have hx1 := hx.on hb1
  have hxl := hx.1
  obtain ⟨U, hU⟩ : ∃ U, dgU true shi slo dhi dlo sp dp xs = U := ⟨_, rfl⟩
  have hUl : U.length = 8 + n := by rw [← hU, dgU_length, hxl]
  replace hg1 := hide hg1
  replace hg2 := hide hg2
  replace hx1 := hide hx1
  have hwr := wrapD_six 17 (by omega) (by decide) shi slo dhi dlo sp dp ttl ⟨w.heap.size, 0, none⟩ ⟨w.heap.size + 1, 0, none⟩ (8 + n) (by omega) (dgK sp dp) U (by omega) w1 h4 h5 h6 h7 (by
    intro P m d w' hb hp hm
    refine (lit_dg 17 true shi slo true dhi dlo sp dp _ _ A n c P m d xs _ w' (blk_below hb (by omega) hg1.out) (blk_below hb (by omega) hg2.out) (hx1.out.on hb) hp hn hm).mono ?_
    intro e w'' he
    rw [← hU]
    unfold dgU aheadB
    rw [if_pos rfl, hxl]
    exact he)
  have hK : dgmK 17 true shi slo true dhi dlo sp dp ttl = (if dgK sp dp = 0 then ttlK ttl else dgK sp dp) := by
    unfold dgmK wrapK
    simp
  have hR : wrapB true shi slo dhi dlo 17 ttl U = Six.allB6 0 0 ttl.toNat shi slo dhi dlo 17 [] U := by
    unfold wrapB
    rw [if_pos rfl]
  rw [hU, hK, hR]
  obtain ⟨KK, hKK⟩ : ∃ KK, (if dgK sp dp = 0 then ttlK ttl else dgK sp dp) = KK := ⟨_, rfl⟩
  rw [hKK] at hwr ⊢
  clear hK hR
  have hcs := blk_cell hg1.out
  have hcd := blk_cell hg2.out

  unfold tuA at hw1 hcs ⊢
  replace hx := hide hx
  replace hxl := hide hxl
  replace hU := hide hU
  replace hUl := hide hUl
  replace hwr := hide hwr
  replace hKK := hide hKK
  replace hb1 := hide hb1
  clear hg1 hg2
  go_enter Try.func34, Try.ntmps34
  go_wp2_with fail
  refine hwr.out.mono ?_
  rintro e w4 h4
  have h5 := h4.from hb1.out
  obtain ⟨v4, rfl, h6, h7, h8⟩ := h5
  clear h4 hcs hcd hw1
  replace h6 := hide h6
  replace h7 := hide h7
  replace h8 := hide h8
  go_wp2_with fail
  go_ret2
  exact ⟨v4, rfl, h6.out, h7.out, h8.out⟩
set_option maxRecDepth 20000 in
set_option maxHeartbeats 8000000 in
theorem datagram_four (shi slo dhi dlo : Nat) (sp dp ttl : Int) (A : Option Addr) (n c : Nat) (xs : List UInt8) (w : World) (hx : IsB w w.heap.size A n xs) (hn : n ≤ 4000)
    (h4 : shi < 18446744073709551616) (h5 : slo < 18446744073709551616) (h6 : dhi < 18446744073709551616) (h7 : dlo < 18446744073709551616) :
    Calls Try.prog 34 #[.agg (tuA 17 false shi slo false dhi dlo sp dp), .int .i64 ttl, .slice A n c] w fun e w' => InEnd (dgmK 17 false shi slo false dhi dlo sp dp ttl) (wrapB false shi slo dhi dlo 17 ttl (dgU false shi slo dhi dlo sp dp xs)) w w' e := by
  obtain ⟨w1, hw1⟩ : ∃ w1, (w.alloc (.cells (tuA 17 false shi slo false dhi dlo sp dp) 56)).alloc (.cells #[.slice A n c] 22) = w1 := ⟨_, rfl⟩
  have hb1 : Below w.heap.size w w1 := hw1 ▸ ((Below.refl _ _).alloc (Nat.le_refl _) _).alloc (by simp) _
  have hg1 : w1.heap[w.heap.size]? = some (.cells (tuA 17 false shi slo false dhi dlo sp dp) 56 (0, 0)) := hw1 ▸ blk_old _ (by simp) (blk_new _ _ _)
  have hg2 : w1.heap[w.heap.size + 1]? = some (.cells #[.slice A n c] 22 (0, 0)) := hw1 ▸ (by simpa using blk_new (w.alloc (.cells (tuA 17 false shi slo false dhi dlo sp dp) 56)) 22 #[.slice A n c])
  have hz1 : w.heap.size + 1 < w1.heap.size := by rw [← hw1]; simp
  have hx1 := hx.on hb1
  have hxl := hx.1
  obtain ⟨U, hU⟩ : ∃ U, dgU false shi slo dhi dlo sp dp xs = U := ⟨_, rfl⟩
  have hUl : U.length = 8 + n := by rw [← hU, dgU_length, hxl]
  replace hg1 := hide hg1
  replace hg2 := hide hg2
  replace hx1 := hide hx1
  have hwr := wrapD_four 17 (by omega) (by decide) shi slo dhi dlo sp dp ttl ⟨w.heap.size, 0, none⟩ ⟨w.heap.size + 1, 0, none⟩ (8 + n) (by omega) (dgK sp dp) U (by omega) w1 h4 h5 h6 h7 (by
    intro P m d w' hb hp hm
    refine (lit_dg 17 false shi slo false dhi dlo sp dp _ _ A n c P m d xs _ w' (blk_below hb (by omega) hg1.out) (blk_below hb (by omega) hg2.out) (hx1.out.on hb) hp hn hm).mono ?_
    intro e w'' he
    rw [← hU]
    unfold dgU aheadB
    rw [if_neg (by simp), hxl]
    exact he)
  have hK : dgmK 17 false shi slo false dhi dlo sp dp ttl = (if dgK sp dp = 0 then fourK ttl shi slo dhi dlo else dgK sp dp) := by
    unfold dgmK wrapK
    simp
  have hR : wrapB false shi slo dhi dlo 17 ttl U = Four.hdB 0 0 0 ttl.toNat 17 slo dlo [] U.length ++ U := by
    unfold wrapB
    rw [if_neg (by simp)]
  rw [hU, hK, hR]
  obtain ⟨KK, hKK⟩ : ∃ KK, (if dgK sp dp = 0 then fourK ttl shi slo dhi dlo else dgK sp dp) = KK := ⟨_, rfl⟩
  rw [hKK] at hwr ⊢
  clear hK hR
  have hcs := blk_cell hg1.out
  have hcd := blk_cell hg2.out

  unfold tuA at hw1 hcs ⊢
  replace hx := hide hx
  replace hxl := hide hxl
  replace hU := hide hU
  replace hUl := hide hUl
  replace hwr := hide hwr
  replace hKK := hide hKK
  replace hb1 := hide hb1
  clear hg1 hg2
  go_enter Try.func34, Try.ntmps34
  go_wp2_with fail
  refine hwr.out.mono ?_
  rintro e w4 h4
  have h5 := h4.from hb1.out
  obtain ⟨v4, rfl, h6, h7, h8⟩ := h5
  clear h4 hcs hcd hw1
  replace h6 := hide h6
  replace h7 := hide h7
  replace h8 := hide h8
  go_wp2_with fail
  go_ret2
  exact ⟨v4, rfl, h6.out, h7.out, h8.out⟩
set_option maxRecDepth 20000 in
set_option maxHeartbeats 8000000 in
theorem segment_no (pr : Int) (sv : Bool) (shi slo : Int) (dv : Bool) (dhi dlo sp dp ttl : Int) (fl : Int) (A : Option Addr) (n c : Nat) (w : World) (h : pr ≠ 6 ∨ sv ≠ dv) :
    Calls Try.prog 35 #[.agg (tuA pr sv shi slo dv dhi dlo sp dp), .int .i64 ttl, .int .i64 fl, .slice A n c] w fun e w' => InEnd 1 [] w w' e := by
  have hb : Below w.heap.size w (((w.alloc (.cells (tuA pr sv shi slo dv dhi dlo sp dp) 56)).alloc (.cells #[.int .i64 fl] 3)).alloc (.cells #[.slice A n c] 22)) := (((Below.refl _ _).alloc (Nat.le_refl _) _).alloc (by simp) _).alloc (by simp; omega) _
  unfold tuA at hb ⊢
  by_cases hp : pr = 6
  · subst hp
    have hs : sv ≠ dv := by simpa using h
    replace hb := hide hb
    clear h
    cases sv with
    | false =>
      cases dv with
      | false => exact absurd rfl hs
      | true =>
        clear hs
        go_enter Try.func35, Try.ntmps35
        go_wp2_with fail
        go_ret2
        exact .no (K := 1) _ (by omega) hb.out
    | true =>
      cases dv with
      | true => exact absurd rfl hs
      | false =>
        clear hs
        go_enter Try.func35, Try.ntmps35
        go_wp2_with fail
        go_ret2
        exact .no (K := 1) _ (by omega) hb.out
  · have hp2 : (pr != 6) = true := by simpa using hp
    replace hb := hide hb
    clear h hp
    go_enter Try.func35, Try.ntmps35
    go_wp2_with fail
    go_ret2
    exact .no (K := 1) _ (by omega) hb.out
set_option maxRecDepth 20000 in
set_option maxHeartbeats 8000000 in
theorem segment_six (shi slo dhi dlo : Nat) (sp dp ttl : Int) (fl : Int) (A : Option Addr) (n c : Nat) (xs : List UInt8) (w : World) (hx : IsB w w.heap.size A n xs) (hn : n ≤ 4000)
    (h4 : shi < 18446744073709551616) (h5 : slo < 18446744073709551616) (h6 : dhi < 18446744073709551616) (h7 : dlo < 18446744073709551616) :
    Calls Try.prog 35 #[.agg (tuA 6 true shi slo true dhi dlo sp dp), .int .i64 ttl, .int .i64 fl, .slice A n c] w fun e w' => InEnd (sgmK 6 true shi slo true dhi dlo sp dp fl ttl) (wrapB true shi slo dhi dlo 6 ttl (sgU true shi slo dhi dlo sp dp fl xs)) w w' e := by
  obtain ⟨w1, hw1⟩ : ∃ w1, ((w.alloc (.cells (tuA 6 true shi slo true dhi dlo sp dp) 56)).alloc (.cells #[.int .i64 fl] 3)).alloc (.cells #[.slice A n c] 22) = w1 := ⟨_, rfl⟩
  have hb1 : Below w.heap.size w w1 := hw1 ▸ (((Below.refl _ _).alloc (Nat.le_refl _) _).alloc (by simp) _).alloc (by simp; omega) _
  have hg1 : w1.heap[w.heap.size]? = some (.cells (tuA 6 true shi slo true dhi dlo sp dp) 56 (0, 0)) := hw1 ▸ blk_old _ (by simp; omega) (blk_old _ (by simp) (blk_new _ _ _))
  have hg2 : w1.heap[w.heap.size + 1]? = some (.cells #[.int .i64 fl] 3 (0, 0)) := hw1 ▸ blk_old _ (by simp) (by simpa using blk_new (w.alloc (.cells (tuA 6 true shi slo true dhi dlo sp dp) 56)) 3 #[.int .i64 fl])
  have hg3 : w1.heap[w.heap.size + 2]? = some (.cells #[.slice A n c] 22 (0, 0)) := hw1 ▸ (by simpa using blk_new ((w.alloc (.cells (tuA 6 true shi slo true dhi dlo sp dp) 56)).alloc (.cells #[.int .i64 fl] 3)) 22 #[.slice A n c])
  have hz1 : w.heap.size + 2 < w1.heap.size := by rw [← hw1]; simp
  have hx1 := hx.on hb1
  have hxl := hx.1
  obtain ⟨U, hU⟩ : ∃ U, sgU true shi slo dhi dlo sp dp fl xs = U := ⟨_, rfl⟩
  have hUl : U.length = 20 + n := by rw [← hU, sgU_length, hxl]
  replace hg1 := hide hg1
  replace hg2 := hide hg2
  replace hg3 := hide hg3
  replace hx1 := hide hx1
  have hwr := wrapS_six 6 (by omega) (by decide) shi slo dhi dlo sp dp ttl ⟨w.heap.size, 0, none⟩ ⟨w.heap.size + 1, 0, none⟩ ⟨w.heap.size + 2, 0, none⟩ (20 + n) (by omega) (sgK sp dp fl) U (by omega) w1 h4 h5 h6 h7 (by
    intro P m d w' hb hp hm
    refine (lit_sg 6 true shi slo true dhi dlo sp dp fl _ _ _ A n c P m d xs _ w' (blk_below hb (by omega) hg1.out) (blk_below hb (by omega) hg2.out) (blk_below hb (by omega) hg3.out) (hx1.out.on hb) hp hn hm).mono ?_
    intro e w'' he
    rw [← hU]
    unfold sgU aheadB
    rw [if_pos rfl, hxl]
    exact he)
  have hK : sgmK 6 true shi slo true dhi dlo sp dp fl ttl = (if sgK sp dp fl = 0 then ttlK ttl else sgK sp dp fl) := by
    unfold sgmK wrapK
    simp
  have hR : wrapB true shi slo dhi dlo 6 ttl U = Six.allB6 0 0 ttl.toNat shi slo dhi dlo 6 [] U := by
    unfold wrapB
    rw [if_pos rfl]
  rw [hU, hK, hR]
  obtain ⟨KK, hKK⟩ : ∃ KK, (if sgK sp dp fl = 0 then ttlK ttl else sgK sp dp fl) = KK := ⟨_, rfl⟩
  rw [hKK] at hwr ⊢
  clear hK hR
  have hcs := blk_cell hg1.out
  have hcd := blk_cell hg2.out
  have hce := blk_cell hg3.out
  unfold tuA at hw1 hcs ⊢
  replace hx := hide hx
  replace hxl := hide hxl
  replace hU := hide hU
  replace hUl := hide hUl
  replace hwr := hide hwr
  replace hKK := hide hKK
  replace hb1 := hide hb1
  clear hg1 hg2 hg3
  go_enter Try.func35, Try.ntmps35
  go_wp2_with fail
  refine hwr.out.mono ?_
  rintro e w4 h4
  have h5 := h4.from hb1.out
  obtain ⟨v4, rfl, h6, h7, h8⟩ := h5
  clear h4 hcs hcd hce hw1
  replace h6 := hide h6
  replace h7 := hide h7
  replace h8 := hide h8
  go_wp2_with fail
  go_ret2
  exact ⟨v4, rfl, h6.out, h7.out, h8.out⟩
set_option maxRecDepth 20000 in
set_option maxHeartbeats 8000000 in
theorem segment_four (shi slo dhi dlo : Nat) (sp dp ttl : Int) (fl : Int) (A : Option Addr) (n c : Nat) (xs : List UInt8) (w : World) (hx : IsB w w.heap.size A n xs) (hn : n ≤ 4000)
    (h4 : shi < 18446744073709551616) (h5 : slo < 18446744073709551616) (h6 : dhi < 18446744073709551616) (h7 : dlo < 18446744073709551616) :
    Calls Try.prog 35 #[.agg (tuA 6 false shi slo false dhi dlo sp dp), .int .i64 ttl, .int .i64 fl, .slice A n c] w fun e w' => InEnd (sgmK 6 false shi slo false dhi dlo sp dp fl ttl) (wrapB false shi slo dhi dlo 6 ttl (sgU false shi slo dhi dlo sp dp fl xs)) w w' e := by
  obtain ⟨w1, hw1⟩ : ∃ w1, ((w.alloc (.cells (tuA 6 false shi slo false dhi dlo sp dp) 56)).alloc (.cells #[.int .i64 fl] 3)).alloc (.cells #[.slice A n c] 22) = w1 := ⟨_, rfl⟩
  have hb1 : Below w.heap.size w w1 := hw1 ▸ (((Below.refl _ _).alloc (Nat.le_refl _) _).alloc (by simp) _).alloc (by simp; omega) _
  have hg1 : w1.heap[w.heap.size]? = some (.cells (tuA 6 false shi slo false dhi dlo sp dp) 56 (0, 0)) := hw1 ▸ blk_old _ (by simp; omega) (blk_old _ (by simp) (blk_new _ _ _))
  have hg2 : w1.heap[w.heap.size + 1]? = some (.cells #[.int .i64 fl] 3 (0, 0)) := hw1 ▸ blk_old _ (by simp) (by simpa using blk_new (w.alloc (.cells (tuA 6 false shi slo false dhi dlo sp dp) 56)) 3 #[.int .i64 fl])
  have hg3 : w1.heap[w.heap.size + 2]? = some (.cells #[.slice A n c] 22 (0, 0)) := hw1 ▸ (by simpa using blk_new ((w.alloc (.cells (tuA 6 false shi slo false dhi dlo sp dp) 56)).alloc (.cells #[.int .i64 fl] 3)) 22 #[.slice A n c])
  have hz1 : w.heap.size + 2 < w1.heap.size := by rw [← hw1]; simp
  have hx1 := hx.on hb1
  have hxl := hx.1
  obtain ⟨U, hU⟩ : ∃ U, sgU false shi slo dhi dlo sp dp fl xs = U := ⟨_, rfl⟩
  have hUl : U.length = 20 + n := by rw [← hU, sgU_length, hxl]
  replace hg1 := hide hg1
  replace hg2 := hide hg2
  replace hg3 := hide hg3
  replace hx1 := hide hx1
  have hwr := wrapS_four 6 (by omega) (by decide) shi slo dhi dlo sp dp ttl ⟨w.heap.size, 0, none⟩ ⟨w.heap.size + 1, 0, none⟩ ⟨w.heap.size + 2, 0, none⟩ (20 + n) (by omega) (sgK sp dp fl) U (by omega) w1 h4 h5 h6 h7 (by
    intro P m d w' hb hp hm
    refine (lit_sg 6 false shi slo false dhi dlo sp dp fl _ _ _ A n c P m d xs _ w' (blk_below hb (by omega) hg1.out) (blk_below hb (by omega) hg2.out) (blk_below hb (by omega) hg3.out) (hx1.out.on hb) hp hn hm).mono ?_
    intro e w'' he
    rw [← hU]
    unfold sgU aheadB
    rw [if_neg (by simp), hxl]
    exact he)
  have hK : sgmK 6 false shi slo false dhi dlo sp dp fl ttl = (if sgK sp dp fl = 0 then fourK ttl shi slo dhi dlo else sgK sp dp fl) := by
    unfold sgmK wrapK
    simp
  have hR : wrapB false shi slo dhi dlo 6 ttl U = Four.hdB 0 0 0 ttl.toNat 6 slo dlo [] U.length ++ U := by
    unfold wrapB
    rw [if_neg (by simp)]
  rw [hU, hK, hR]
  obtain ⟨KK, hKK⟩ : ∃ KK, (if sgK sp dp fl = 0 then fourK ttl shi slo dhi dlo else sgK sp dp fl) = KK := ⟨_, rfl⟩
  rw [hKK] at hwr ⊢
  clear hK hR
  have hcs := blk_cell hg1.out
  have hcd := blk_cell hg2.out
  have hce := blk_cell hg3.out
  unfold tuA at hw1 hcs ⊢
  replace hx := hide hx
  replace hxl := hide hxl
  replace hU := hide hU
  replace hUl := hide hUl
  replace hwr := hide hwr
  replace hKK := hide hKK
  replace hb1 := hide hb1
  clear hg1 hg2 hg3
  go_enter Try.func35, Try.ntmps35
  go_wp2_with fail
  refine hwr.out.mono ?_
  rintro e w4 h4
  have h5 := h4.from hb1.out
  obtain ⟨v4, rfl, h6, h7, h8⟩ := h5
  clear h4 hcs hcd hce hw1
  replace h6 := hide h6
  replace h7 := hide h7
  replace h8 := hide h8
  go_wp2_with fail
  go_ret2
  exact ⟨v4, rfl, h6.out, h7.out, h8.out⟩
end Pkt
end Go.Proofs.Ytdmgbngdpjcliaa
/- pkt.Parse of what pkt.Datagram and pkt.Segment make: the flow itself. Conditions: numbers that may be, at most 4000 bytes behind the headers. -/
namespace Go.Proofs.Ytdmgbngdpjcliaa
open Go.RowKit Go.ChangeShapes Go.WideShapes Go.ChangeAt Go.Deep
namespace Pkt
/-- A packet of a flow. -/
def pkA (v6 : Bool) (pr shi slo dhi dlo : Nat) (sp dp ttl fl sz : Int) : Array Value := #[.bool v6, .int .i64 (pr : Int), .bool v6, .int .u64 (shi : Int), .int .u64 (slo : Int), .bool v6, .int .u64 (dhi : Int), .int .u64 (dlo : Int), .int .i64 sp, .int .i64 dp, .int .i64 ttl, .int .i64 fl, .bool false, .int .i64 0, .bool false, .int .u64 0, .int .u64 0, .bool false, .int .u64 0, .int .u64 0, .int .i64 0, .int .i64 0, .int .i64 sz]
theorem pkA_size (v6 : Bool) (pr shi slo dhi dlo : Nat) (sp dp ttl fl sz : Int) : (pkA v6 pr shi slo dhi dlo sp dp ttl fl sz).size = 23 := rfl
theorem pkA_one (v6 : Bool) (pr shi slo dhi dlo : Nat) (sp dp ttl fl sz : Int) : (pkA v6 pr shi slo dhi dlo sp dp ttl fl sz).all (·.oneCell') = true := all_oneCell_toArray (by
  intro v hv
  simp only [List.mem_cons, List.not_mem_nil, or_false] at hv
  rcases hv with rfl | rfl | rfl | rfl | rfl | rfl | rfl | rfl | rfl | rfl | rfl | rfl | rfl | rfl | rfl | rfl | rfl | rfl | rfl | rfl | rfl | rfl | rfl <;> rfl)
theorem upis_dg (cs : Array Value) (hcs : cs.size = 23) (hone : cs.all (·.oneCell') = true) (v6 : Bool) (h0 : cs[0]? = some (.bool v6)) (h1 : cs[1]? = some (.int .i64 17)) (errs : Int) (U ps : List UInt8) (hU : U.length ≤ 4096) (hp : ps.length ≤ 4096) (s d : Nat) (hK : Udp.parseK (!v6) ps U = 0) (hs : beN U 0 2 = s) (hd : beN U 2 2 = d) :
    UpIs cs errs U ps 0 (udpA cs s d) := fun A P c dd w hx hpw hc hcm => upper_udp cs hcs hone v6 h0 17 h1 errs A P c dd U ps w hx hpw hc hcm (by omega) (by unfold maxLen; omega) rfl 0 hK _ (fun _ => by unfold Udp.parseS; rw [if_pos rfl, if_pos rfl, hs, hd])
theorem upis_sg (cs : Array Value) (hcs : cs.size = 23) (hone : cs.all (·.oneCell') = true) (v6 : Bool) (h0 : cs[0]? = some (.bool v6)) (h1 : cs[1]? = some (.int .i64 6)) (errs : Int) (U ps : List UInt8) (hU : U.length ≤ 4096) (hp : ps.length ≤ 4096) (s d fl : Nat) (hK : Tcp.parseK ps U = 0) (hs : beN U 0 2 = s) (hd : beN U 2 2 = d) (hf : (U.getD 13 0).toNat = fl) :
    UpIs cs errs U ps 0 (tcpA cs s d fl) := fun A P c dd w hx hpw hc hcm => upper_tcp cs hcs hone v6 h0 6 h1 errs A P c dd U ps w hx hpw hc hcm (by omega) (by unfold maxLen; omega) rfl 0 hK _ (fun _ => by unfold Tcp.parseS Tcp.parseF; rw [if_pos rfl, if_pos rfl, if_pos rfl, hs, hd, hf])
/-- pkt.Parse of a plain header and what is behind it. -/
theorem parse_wrap4 (slo dlo pr ttl : Nat) (U : List UInt8) (hsl : slo < 4294967296) (hdl : dlo < 4294967296) (hpr : pr ≤ 255) (ht : ttl ≤ 255) (hU : U.length ≤ 4096) (K : Nat) (y : Array Value) (hy : K = 0 → y.size = 23 ∧ y.all (·.oneCell') = true)
    (hup : UpIs (p4A pr slo dlo ttl (20 + 0 + U.length)) 1 U (ps4 slo dlo pr U.length) K y)
    (A : Option Addr) (n c : Nat) (w : World) (hx : IsB w w.heap.size A n (wrapB false 0 slo 0 dlo pr ttl U)) (hnc : n ≤ c) (hcm : c ≤ maxLen) :
    Calls Try.prog 29 #[.slice A n c] w fun e w' => End2 K y w w' e := by
  have hw : wrapB false 0 slo 0 dlo pr ttl U = Four.hdB 0 0 0 ttl pr slo dlo [] U.length ++ U := by
    unfold wrapB
    rw [if_neg (by simp), Int.toNat_natCast]
  rw [hw] at hx
  obtain ⟨xs, hxs⟩ : ∃ xs, Four.hdB 0 0 0 ttl pr slo dlo [] U.length ++ U = xs := ⟨_, rfl⟩
  have hlen : xs.length = 20 + U.length := by rw [← hxs, List.length_append, Four.hdB_length]; rfl
  rw [hxs] at hx
  have hxn := hx.1
  obtain ⟨p1, p2, p3, p4, p5, p6, p7, p8, p9, p10, p11, p12, p13, p14, p15⟩ := Four.puts_get 0 0 0 ttl pr slo dlo [] U [] 0 U.length rfl rfl (by omega) (by omega) (by omega) ht hpr hsl hdl (by omega) (by omega) hU xs (by rw [List.append_nil]; exact hxs)
  have hF := Tun.four_ok n xs (by omega) (by omega) p1 20 (by omega) (by omega) (by omega) p4 (by omega) (by omega) p5
  rw [p3, p6, p7, p8, p9, p10, p11, p12, p14, show 20 + 0 + U.length - 20 = 0 + U.length by omega, Nat.zero_add] at hF
  exact Parse_four n xs (by omega) (by omega) p1 K y hy (fun A c w hx hc hcm => parse4_ok n xs 0 0 _ ttl pr slo dlo 0 U.length U hF (by omega) hpr hsl hdl rfl K y hup hy A c w hx hc hcm) A c w hx hnc hcm
theorem parse_wrap6 (shi slo dhi dlo pr ttl : Nat) (U : List UInt8) (h4 : shi < 18446744073709551616) (h5 : slo < 18446744073709551616) (h6 : dhi < 18446744073709551616) (h7 : dlo < 18446744073709551616) (hpr : pr ≤ 255) (hib : Six.isB (pr : Int) = false) (ht : ttl ≤ 255) (hU : U.length ≤ 4096) (K : Nat) (y : Array Value) (hy : K = 0 → y.size = 23 ∧ y.all (·.oneCell') = true)
    (hup : UpIs (p6A pr shi slo dhi dlo ttl (40 + U.length)) 58 U (Six.pseudoB shi slo dhi dlo U.length pr) K y)
    (A : Option Addr) (n c : Nat) (w : World) (hx : IsB w w.heap.size A n (wrapB true shi slo dhi dlo pr ttl U)) (hnc : n ≤ c) (hcm : c ≤ maxLen) :
    Calls Try.prog 29 #[.slice A n c] w fun e w' => End2 K y w w' e := by
  have hw : wrapB true shi slo dhi dlo pr ttl U = Six.allB6 0 0 ttl shi slo dhi dlo pr [] U := by
    unfold wrapB
    rw [if_pos rfl, Int.toNat_natCast]
  rw [hw] at hx
  obtain ⟨xs, hxs⟩ : ∃ xs, Six.allB6 0 0 ttl shi slo dhi dlo pr [] U = xs := ⟨_, rfl⟩
  have hlen : xs.length = 40 + U.length := by rw [← hxs, Six.allB6_length]; rfl
  rw [hxs] at hx
  have hxn := hx.1
  have hr : Six.rightHB (0 : Nat) (0 : Nat) (ttl : Nat) true true pr [] = true := by
    rw [Six.rightHB_yes ⟨by omega, by omega, by omega, by omega, by omega, by omega, rfl, rfl, by omega, by omega, hib, by simp⟩]
    rfl
  obtain ⟨p1, p2, _, _, p5, p6, p7, p8, p9, p10, p11⟩ := Six.puts_parse 0 0 ttl shi slo dhi dlo pr [] U [] xs hr h4 h5 h6 h7 hU (by rw [List.append_nil]; exact hxs)
  rw [hxn] at p1
  have hF := Tun.six_ok n xs (by omega) [] pr U p1 p2
  rw [p5, p6, p7, p8, p9, p10, p11] at hF
  have hv : (xs.getD 0 0).toNat / 16 = 6 := by
    by_cases h : (xs.getD 0 0).toNat / 16 = 6
    · exact h
    · unfold Six.parseK at p1
      rw [if_neg (by omega), if_pos h] at p1
      omega
  exact Parse_six n xs (by omega) (by omega) hv K y hy (fun A c w hx hc hcm => parse6_ok n xs 0 0 ttl shi slo dhi dlo [] pr U.length U hF (by simp) (by simp) (by decide) (by decide) (by omega) hpr h4 h5 h6 h7 rfl 40 (by decide) K y hup hy A c w hx hc hcm) A c w hx hnc hcm
theorem udpA4 (slo dlo ttl sz s d : Nat) : udpA (p4A 17 slo dlo ttl sz) s d = pkA false 17 0 slo 0 dlo s d ttl 0 sz := rfl
theorem tcpA4 (slo dlo ttl sz s d fl : Nat) : tcpA (p4A 6 slo dlo ttl sz) s d fl = pkA false 6 0 slo 0 dlo s d ttl fl sz := rfl
theorem udpA6 (shi slo dhi dlo ttl sz s d : Nat) : udpA (p6A 17 shi slo dhi dlo ttl sz) s d = pkA true 17 shi slo dhi dlo s d ttl 0 sz := rfl
theorem tcpA6 (shi slo dhi dlo ttl sz s d fl : Nat) : tcpA (p6A 6 shi slo dhi dlo ttl sz) s d fl = pkA true 6 shi slo dhi dlo s d ttl fl sz := rfl
theorem ps4_even (slo dlo pr m : Nat) : (ps4 slo dlo pr m).length = 12 := by simp [ps4, beB_length]
theorem ps6_even (shi slo dhi dlo m pr : Nat) : (Six.pseudoB shi slo dhi dlo m pr).length = 40 := by simp [Six.pseudoB, beB_length, allB]
/-- A datagram that was made is parsed as its flow. -/
theorem parse_dgm (sv : Bool) (shi slo dhi dlo : Nat) (sp dp ttl : Int) (xs : List UInt8) (hxs : xs.length ≤ 4000) (h4 : shi < 18446744073709551616) (h5 : slo < 18446744073709551616) (h6 : dhi < 18446744073709551616) (h7 : dlo < 18446744073709551616)
    (hk : dgmK 17 sv shi slo sv dhi dlo sp dp ttl = 0) (n : Nat) (hn : (if sv = true then 40 else 20) + 8 + xs.length = n)
    (A : Option Addr) (c : Nat) (w : World) (hx : IsB w w.heap.size A n (wrapB sv shi slo dhi dlo 17 ttl (dgU sv shi slo dhi dlo sp dp xs))) (hnc : n ≤ c) (hcm : c ≤ maxLen) :
    Calls Try.prog 29 #[.slice A n c] w fun e w' => End2 0 (pkA sv 17 shi slo dhi dlo sp dp ttl 0 n) w w' e := by
  have hl := dgU_length sv shi slo dhi dlo sp dp xs
  unfold dgmK at hk
  rw [if_neg (by simp)] at hk
  have hd : dgK sp dp = 0 := by
    by_cases h : dgK sp dp = 0
    · exact h
    · rw [if_neg h] at hk; exact absurd hk h
  rw [if_pos hd] at hk
  have hr : Udp.rightP sp dp = true := by
    unfold dgK at hd
    split at hd
    · assumption
    · omega
  unfold Udp.rightP at hr
  rw [decide_eq_true_eq] at hr
  obtain ⟨s, rfl⟩ : ∃ s : Nat, sp = (s : Int) := ⟨sp.toNat, by omega⟩
  obtain ⟨d, rfl⟩ : ∃ s : Nat, dp = (s : Int) := ⟨dp.toNat, by omega⟩
  unfold wrapK at hk
  have hdgs : ∀ ps, aheadB sv shi slo dhi dlo 17 (8 + xs.length) = ps → dgU sv shi slo dhi dlo s d xs = Udp.dgB ps s d xs := fun ps hps => by
    unfold dgU
    rw [hps]
    rfl
  rcases sv with _ | _
  · rw [if_neg (by simp)] at hk
    unfold fourK at hk
    split at hk
    case isFalse => omega
    rename_i hh
    obtain ⟨t1, t2, o1, o2⟩ := hh
    obtain ⟨rfl, hsl⟩ := okA_four o1
    obtain ⟨rfl, hdl⟩ := okA_four o2
    obtain ⟨t, rfl⟩ : ∃ s : Nat, ttl = (s : Int) := ⟨ttl.toNat, by omega⟩
    have hps : aheadB false 0 slo 0 dlo 17 (8 + xs.length) = ps4 slo dlo 17 (8 + xs.length) := rfl
    rw [hdgs _ hps] at hx hl
    obtain ⟨g1, g2, g3, g4, _⟩ := Udp.dg_parse (!false) (ps4 slo dlo 17 (8 + xs.length)) s d xs (by rw [ps4_even]) (by omega) (by omega) (by omega)
    have hup := upis_dg (p4A 17 slo dlo t n) rfl (p4A_one _ _ _ _ _) false rfl rfl 1 _ (ps4 slo dlo 17 (8 + xs.length)) (by omega) (by rw [ps4_even]; omega) s d g1 g2 g3
    rw [udpA4] at hup
    refine parse_wrap4 slo dlo 17 t _ hsl hdl (by omega) (by omega) (by omega) 0 _ (fun _ => ⟨pkA_size _ _ _ _ _ _ _ _ _ _ _, pkA_one _ _ _ _ _ _ _ _ _ _ _⟩) ?_ A n c w hx hnc hcm
    rw [hl, show 20 + 0 + (8 + xs.length) = n by rw [← hn]; simp; omega]
    exact hup
  · rw [if_pos rfl] at hk
    unfold ttlK at hk
    split at hk
    case isFalse => omega
    rename_i hh
    obtain ⟨t, rfl⟩ : ∃ s : Nat, ttl = (s : Int) := ⟨ttl.toNat, by omega⟩
    have hps : aheadB true shi slo dhi dlo 17 (8 + xs.length) = Six.pseudoB shi slo dhi dlo (8 + xs.length) 17 := rfl
    rw [hdgs _ hps] at hx hl
    obtain ⟨g1, g2, g3, g4, _⟩ := Udp.dg_parse (!true) (Six.pseudoB shi slo dhi dlo (8 + xs.length) 17) s d xs (by rw [ps6_even]) (by omega) (by omega) (by omega)
    have hup := upis_dg (p6A 17 shi slo dhi dlo t n) rfl (p6A_one _ _ _ _ _ _ _) true rfl rfl 58 _ (Six.pseudoB shi slo dhi dlo (8 + xs.length) 17) (by omega) (by rw [ps6_even]; omega) s d g1 g2 g3
    rw [udpA6] at hup
    refine parse_wrap6 shi slo dhi dlo 17 t _ h4 h5 h6 h7 (by omega) (by decide) (by omega) (by omega) 0 _ (fun _ => ⟨pkA_size _ _ _ _ _ _ _ _ _ _ _, pkA_one _ _ _ _ _ _ _ _ _ _ _⟩) ?_ A n c w hx hnc hcm
    rw [hl, show 40 + (8 + xs.length) = n by rw [← hn]; simp; omega]
    exact hup
/-- A segment that was made is parsed as its flow. -/
theorem parse_sgm (sv : Bool) (shi slo dhi dlo : Nat) (sp dp fl ttl : Int) (xs : List UInt8) (hxs : xs.length ≤ 4000) (h4 : shi < 18446744073709551616) (h5 : slo < 18446744073709551616) (h6 : dhi < 18446744073709551616) (h7 : dlo < 18446744073709551616)
    (hk : sgmK 6 sv shi slo sv dhi dlo sp dp fl ttl = 0) (n : Nat) (hn : (if sv = true then 40 else 20) + 20 + xs.length = n)
    (A : Option Addr) (c : Nat) (w : World) (hx : IsB w w.heap.size A n (wrapB sv shi slo dhi dlo 6 ttl (sgU sv shi slo dhi dlo sp dp fl xs))) (hnc : n ≤ c) (hcm : c ≤ maxLen) :
    Calls Try.prog 29 #[.slice A n c] w fun e w' => End2 0 (pkA sv 6 shi slo dhi dlo sp dp ttl fl n) w w' e := by
  have hl := sgU_length sv shi slo dhi dlo sp dp fl xs
  unfold sgmK at hk
  rw [if_neg (by simp)] at hk
  have hd : sgK sp dp fl = 0 := by
    by_cases h : sgK sp dp fl = 0
    · exact h
    · rw [if_neg h] at hk; exact absurd hk h
  rw [if_pos hd] at hk
  have hr : Tcp.rightP sp dp fl = true := by
    unfold sgK at hd
    split at hd
    · assumption
    · omega
  unfold Tcp.rightP at hr
  rw [decide_eq_true_eq] at hr
  obtain ⟨s, rfl⟩ : ∃ s : Nat, sp = (s : Int) := ⟨sp.toNat, by omega⟩
  obtain ⟨d, rfl⟩ : ∃ s : Nat, dp = (s : Int) := ⟨dp.toNat, by omega⟩
  obtain ⟨f, rfl⟩ : ∃ s : Nat, fl = (s : Int) := ⟨fl.toNat, by omega⟩
  unfold wrapK at hk
  have hdgs : ∀ ps, aheadB sv shi slo dhi dlo 6 (20 + xs.length) = ps → sgU sv shi slo dhi dlo s d f xs = Tcp.sgB ps s d f xs := fun ps hps => by
    unfold sgU
    rw [hps]
    rfl
  rcases sv with _ | _
  · rw [if_neg (by simp)] at hk
    unfold fourK at hk
    split at hk
    case isFalse => omega
    rename_i hh
    obtain ⟨t1, t2, o1, o2⟩ := hh
    obtain ⟨rfl, hsl⟩ := okA_four o1
    obtain ⟨rfl, hdl⟩ := okA_four o2
    obtain ⟨t, rfl⟩ : ∃ s : Nat, ttl = (s : Int) := ⟨ttl.toNat, by omega⟩
    have hps : aheadB false 0 slo 0 dlo 6 (20 + xs.length) = ps4 slo dlo 6 (20 + xs.length) := rfl
    rw [hdgs _ hps] at hx hl
    obtain ⟨g1, g2, g3, g5, g4, _⟩ := Tcp.sg_parse (ps4 slo dlo 6 (20 + xs.length)) s d f xs (by rw [ps4_even]) (by omega) (by omega) (by omega)
    have hup := upis_sg (p4A 6 slo dlo t n) rfl (p4A_one _ _ _ _ _) false rfl rfl 1 _ (ps4 slo dlo 6 (20 + xs.length)) (by omega) (by rw [ps4_even]; omega) s d f g1 g2 g3 g5
    rw [tcpA4] at hup
    refine parse_wrap4 slo dlo 6 t _ hsl hdl (by omega) (by omega) (by omega) 0 _ (fun _ => ⟨pkA_size _ _ _ _ _ _ _ _ _ _ _, pkA_one _ _ _ _ _ _ _ _ _ _ _⟩) ?_ A n c w hx hnc hcm
    rw [hl, show 20 + 0 + (20 + xs.length) = n by rw [← hn]; simp; omega]
    exact hup
  · rw [if_pos rfl] at hk
    unfold ttlK at hk
    split at hk
    case isFalse => omega
    rename_i hh
    obtain ⟨t, rfl⟩ : ∃ s : Nat, ttl = (s : Int) := ⟨ttl.toNat, by omega⟩
    have hps : aheadB true shi slo dhi dlo 6 (20 + xs.length) = Six.pseudoB shi slo dhi dlo (20 + xs.length) 6 := rfl
    rw [hdgs _ hps] at hx hl
    obtain ⟨g1, g2, g3, g5, g4, _⟩ := Tcp.sg_parse (Six.pseudoB shi slo dhi dlo (20 + xs.length) 6) s d f xs (by rw [ps6_even]) (by omega) (by omega) (by omega)
    have hup := upis_sg (p6A 6 shi slo dhi dlo t n) rfl (p6A_one _ _ _ _ _ _ _) true rfl rfl 58 _ (Six.pseudoB shi slo dhi dlo (20 + xs.length) 6) (by omega) (by rw [ps6_even]; omega) s d f g1 g2 g3 g5
    rw [tcpA6] at hup
    refine parse_wrap6 shi slo dhi dlo 6 t _ h4 h5 h6 h7 (by omega) (by decide) (by omega) (by omega) 0 _ (fun _ => ⟨pkA_size _ _ _ _ _ _ _ _ _ _ _, pkA_one _ _ _ _ _ _ _ _ _ _ _⟩) ?_ A n c w hx hnc hcm
    rw [hl, show 40 + (20 + xs.length) = n by rw [← hn]; simp; omega]
    exact hup
end Pkt
end Go.Proofs.Ytdmgbngdpjcliaa
/- The law's awake, by contract: it is true. No condition. -/
namespace Go.Proofs.Ytdmgbngdpjcliaa
open Go.RowKit Go.ChangeShapes Go.WideShapes Go.ChangeAt Go.Deep
namespace Pkt
set_option maxRecDepth 20000 in
set_option maxHeartbeats 8000000 in
theorem awake_any (w : World) : Calls Try.prog 30 #[] w fun e w' => e = .returned (.bool true) ∧ Below w.heap.size w w' := by
  go_enter Try.func30, Try.ntmps30
  go_upto_region 1 with fail
  apply wp_region_lit
  iterate 1 (refine wpList_plain rfl fun K hK => ?_; go_simp; refine hK _ _ ?_; clear hK K)
  have hx : IsB (w.alloc (.cells #[.int .u8 0] 5)) (w.alloc (.cells #[.int .u8 0] 5)).heap.size (some ⟨w.heap.size, 0, none⟩) 1 [0] := (OwnB.litv w 0 [.int .u8 0] [0] 1 rfl rfl (by omega) (by omega)).reads.2.2.2
  refine wpList_plain rfl fun K hK => ?_
  go_simp
  refine (Parse_else 1 [0] (by omega) (by omega) (by decide) #[] _ 1 _ hx (by omega) (by unfold maxLen; omega)).mono ?_
  rintro e w1 hE
  obtain ⟨z, rfl, hzs, hzo, -, hb1⟩ := hE.letter (by omega)
  have hB1 := ((Below.refl w.heap.size w).alloc (Nat.le_refl _) (.cells #[.int .u8 0] 5)).trans (hb1.mono (by simp))
  clear hE hb1 hx
  replace hzo := hide hzo
  replace hB1 := hide hB1
  go_simp
  refine hK _ _ ?_
  clear hK K
  iterate 3 (refine wpList_plain rfl fun K hK => ?_; go_simp; refine hK _ _ ?_; clear hK K)
  refine wpl_new rfl rfl 58 _ (alloc_pk _ rfl) 1 rfl (.tmp 10) rfl _ (fun _ => rfl) (fun _ => rfl) (by rw [pkZ_size]; exact hzs) (by rw [size_pk, hzs]) hzo.out ?_
  intro w2 hg2 hb2 hz2
  have hB2 := hB1.out.trans (hb2.mono hB1.out.size)
  clear hb2 hg2 hzo hB1
  replace hB2 := hide hB2
  iterate 1 (refine wpList_plain rfl fun K hK => ?_; go_simp; refine hK _ _ ?_; clear hK K)
  refine wpList_nil ?_
  have hd := datagram_four 0 0 0 0 0 53 9 none 0 0 [] w2 (IsB.nil _ _ _) (by omega) (by omega) (by omega) (by omega) (by omega)
  unfold tuA at hd
  have hk : dgmK 17 false 0 0 false 0 0 0 53 9 = 0 := by decide
  replace hd := hide hd
  replace hk := hide hk
  go_wp2_with fail
  refine hd.out.mono ?_
  rintro e w3 ⟨v, rfl, h1, -, hb3⟩
  have hown := h1 hk.out
  have hk' : dgmK 17 false ((0 : Nat) : Int) ((0 : Nat) : Int) false ((0 : Nat) : Int) ((0 : Nat) : Int) 0 53 9 = 0 := hk.out
  rw [hk']
  obtain ⟨A3, c3, rfl, hc3, hm3, hi3⟩ := hown.form
  have hl : (wrapB false 0 0 0 0 17 9 (dgU false 0 0 0 0 0 53 [])).length = 28 := by
    unfold wrapB
    rw [if_neg (by simp), List.length_append, Four.hdB_length, dgU_length]
    rfl
  rw [hl] at hc3 hi3 ⊢
  have hP := parse_dgm false 0 0 0 0 0 53 9 [] (by simp) (by omega) (by omega) (by omega) (by omega) hk.out 28 (by simp) A3 c3 w3 hi3 hc3 hm3
  have hB3 := hB2.out.trans (hb3.mono hB2.out.size)
  clear hd hk hk' h1 hown hi3 hl hb3 hB2
  obtain ⟨y, hy⟩ : ∃ y, pkA false 17 0 0 0 0 0 53 9 0 ((28 : Nat) : Int) = y := ⟨_, rfl⟩
  have hys : y.size = 23 := hy ▸ rfl
  have hyo : y.all (·.oneCell') = true := hy ▸ pkA_one _ _ _ _ _ _ _ _ _ _ _
  rw [hy] at hP
  replace hy := hide hy
  replace hyo := hide hyo
  replace hP := hide hP
  replace hB3 := hide hB3
  go_upto_region 3 with fail
  apply wp_region_lit
  iterate 1 (refine wpList_plain rfl fun K hK => ?_; go_simp; refine hK _ _ ?_; clear hK K)
  refine wpList_plain rfl fun K hK => ?_
  go_simp
  refine (hP.out).mono ?_
  rintro e w4 hE
  obtain ⟨z4, rfl, -, -, hz4, hb4⟩ := hE.letter (fun _ => ⟨hys, hyo.out⟩)
  rw [if_pos rfl] at hz4
  subst hz4
  have hB4 := hB3.out.trans (hb4.mono hB3.out.size)
  clear hE hb4 hB3 hP
  replace hB4 := hide hB4
  go_simp
  refine hK _ _ ?_
  clear hK K
  iterate 3 (refine wpList_plain rfl fun K hK => ?_; go_simp; refine hK _ _ ?_; clear hK K)
  refine wpl_new rfl rfl 58 _ (alloc_pk _ rfl) 5 rfl (.tmp 20) rfl _ (fun _ => rfl) (fun _ => rfl) (by rw [pkZ_size]; exact hys) (by rw [size_pk, hys]) hyo.out ?_
  intro w5 hg5 hb5 hz5
  have hB5 := hB4.out.trans (hb5.mono hB4.out.size)
  clear hb5 hyo hB4
  have hcell := blk_cell hg5
  rw [← hy.out] at hcell
  unfold pkA at hcell
  clear hg5 hy hys
  replace hB5 := hide hB5
  iterate 1 (refine wpList_plain rfl fun K hK => ?_; go_simp; refine hK _ _ ?_; clear hK K)
  refine wpList_nil ?_
  go_wp2_with fail
  go_ret
  exact ⟨rfl, hB5.out⟩
end Pkt
end Go.Proofs.Ytdmgbngdpjcliaa
/- The statement PktBig, walked: what is too long, or nothing, is no packet. No condition. -/
namespace Go.Proofs.Ytdmgbngdpjcliaa
open Go.RowKit Go.ChangeShapes Go.WideShapes Go.ChangeAt Go.Deep
namespace Pkt
/-- Bytes of a header that is none. -/
theorem parse_zero (n : Nat) (hn : 8990 ≤ n) (hn2 : n ≤ 9010) : ∃ K : Nat, K ≠ 0 ∧ (((K : Int) == 25) == decide ((9000 : Int) < (n : Int))) = true ∧ ∀ (A : Option Addr) (c : Nat) (w : World), IsB w w.heap.size A n ((List.replicate n 0).set 0 64) → n ≤ c → c ≤ maxLen → Calls Try.prog 29 #[.slice A n c] w fun e w' => End2 K #[] w w' e := by
  by_cases h : 9000 < n
  · refine ⟨25, by omega, ?_, fun A c w hx hc hm => Parse_long n _ h #[] A c w hx hc hm⟩
    have : (9000 : Int) < (n : Int) := by omega
    simp [this]
  · have hv : (((List.replicate n 0).set 0 64 : List UInt8).getD 0 0).toNat = 64 := by
      obtain ⟨m, rfl⟩ : ∃ m, n = m + 1 := ⟨n - 1, by omega⟩
      rfl
    refine ⟨11, by omega, ?_, ?_⟩
    · have : ¬ (9000 : Int) < (n : Int) := by omega
      simp [this]
    · intro A c w hx hc hm
      have hF := Tun.four_bad (n := n) (xs := (List.replicate n 0).set 0 64) 11 fun A c w hx hc => Four.parse_header1 A n c _ w hx hc (by omega) (by omega) (by rw [hv]) 0 (by rw [hv]) (by omega)
      exact Parse_four n _ (by omega) (by omega) (by rw [hv]) 11 #[] (by omega) (fun A c w hx hc hm => parse4_bad n _ 11 (by omega) hF #[] A c w hx hc hm) A c w hx hc hm
set_option maxRecDepth 20000 in
set_option maxHeartbeats 8000000 in
theorem big_walk (n : Int) (w : World) (_hw : (Lit.int .i64 n).wf = true) : Calls Try.prog 7 #[.int .i64 n] w fun e w' => e = .returned (.bool true) ∧ Below w.heap.size w w' := by
  go_enter Try.func7, Try.ntmps7
  go_upto_region 1 with fail
  apply wp_region_lit
  refine wpList_plain rfl fun K hK => ?_
  go_simp
  refine (Parse_none 0 [] rfl #[] none 0 w (IsB.nil _ _ _) (by omega) (by unfold maxLen; omega)).mono ?_
  rintro e w1 hE
  obtain ⟨z, rfl, hzs, hzo, -, hb1⟩ := hE.letter (by omega)
  clear hE
  replace hzo := hide hzo
  replace hb1 := hide hb1
  go_simp
  refine hK _ _ ?_
  clear hK K
  iterate 3 (refine wpList_plain rfl fun K hK => ?_; go_simp; refine hK _ _ ?_; clear hK K)
  refine wpl_new rfl rfl 58 _ (alloc_pk _ rfl) 3 rfl (.tmp 10) rfl _ (fun _ => rfl) (fun _ => rfl) (by rw [pkZ_size]; exact hzs) (by rw [size_pk, hzs]) hzo.out ?_
  intro w2 hg2 hb2 hz2
  have hB2 := hb1.out.trans (hb2.mono hb1.out.size)
  clear hb2 hg2 hzo hb1
  replace hB2 := hide hB2
  iterate 1 (refine wpList_plain rfl fun K hK => ?_; go_simp; refine hK _ _ ?_; clear hK K)
  refine wpList_nil ?_
  by_cases h1 : 8990 ≤ n
  case neg =>
    go_wp2_with fail
    refine (awake_any _).mono ?_
    rintro e w3 ⟨rfl, hb3⟩
    have hB3 := hB2.out.trans (hb3.mono hB2.out.size)
    clear hb3 hB2
    replace hB3 := hide hB3
    go_wp2_with fail
    go_ret
    exact ⟨rfl, hB3.out⟩
  by_cases h2 : n ≤ 9010
  case neg =>
    go_wp2_with fail
    refine (awake_any _).mono ?_
    rintro e w3 ⟨rfl, hb3⟩
    have hB3 := hB2.out.trans (hb3.mono hB2.out.size)
    clear hb3 hB2
    replace hB3 := hide hB3
    go_wp2_with fail
    go_ret
    exact ⟨rfl, hB3.out⟩
  obtain ⟨m, rfl⟩ : ∃ m : Nat, n = (m : Int) := ⟨n.toNat, by omega⟩
  obtain ⟨w3, hmk, hown, hb3⟩ := make_bytes m (by omega) w2
  obtain ⟨K, hK0, hKK, hP⟩ := parse_zero m (by omega) (by omega)
  obtain ⟨g, cur, hgA, hgb, hgh, hcl, hct, -⟩ := hown.row (by omega)
  cases hgA
  have hc0 : w3.cell? ⟨w2.heap.size, 0, none⟩ = some (.int .u8 0) := by
    rw [blk_cell hgh]
    have : cur[0]? = (cur.take m)[0]? := by rw [List.getElem?_take, if_pos (by omega)]
    have h3 : cur.toArray[0]? = cur[0]? := by simp
    rw [h3, this, hct]
    obtain ⟨k, rfl⟩ : ∃ k, m = k + 1 := ⟨m - 1, by omega⟩
    rfl
  have hf0 := blk_free hgh 0
  have hown2 := hown.store 0 64
  have hB3 := hB2.out.trans (hb3.mono hB2.out.size)
  have hz3 := (hown.lt _ rfl).2
  obtain ⟨w4, hw4⟩ : ∃ w4, w3.setCell ⟨w2.heap.size, 0, none⟩ (u8v 64) = w4 := ⟨_, rfl⟩
  have hB4 : Below w.heap.size w w4 := hw4 ▸ hB3.trans (below_grown (g := w2.heap.size) (grown_set (grown_refl w3 (some w2.heap.size)) rfl _) (hB3.size) hB2.out.size)
  rw [hw4] at hown2
  have hi4 := hown2.reads.2.2.2
  have hPc := hP _ m w4 hi4 (Nat.le_refl _) (by unfold maxLen; omega)
  have hw4' : w3.setCell ⟨w2.heap.size, 0, none⟩ (.int .u8 64) = w4 := hw4
  clear hw4 hown2 hown hi4 hP hb3 hct hgh hcl hB2 hB3
  replace hPc := hide hPc
  replace hB4 := hide hB4
  go_upto_region 6 with fail
  apply wp_region_lit
  iterate 1 (refine wpList_plain rfl fun K hK => ?_; go_simp; refine hK _ _ ?_; clear hK K)
  refine wpList_plain rfl fun K hK => ?_
  go_simp
  refine (hPc.out).mono ?_
  rintro e w5 hE
  obtain ⟨z5, rfl, hzs5, hzo5, -, hb5⟩ := hE.letter (fun h => absurd h hK0)
  have hB5 := hB4.out.trans (hb5.mono hB4.out.size)
  clear hE hb5 hPc hB4 hc0 hf0 hmk hw4'
  replace hzo5 := hide hzo5
  replace hB5 := hide hB5
  go_simp
  refine hK _ _ ?_
  clear hK K
  iterate 3 (refine wpList_plain rfl fun K hK => ?_; go_simp; refine hK _ _ ?_; clear hK K)
  refine wpl_new rfl rfl 58 _ (alloc_pk _ rfl) 6 rfl (.tmp 30) rfl _ (fun _ => rfl) (fun _ => rfl) (by rw [pkZ_size]; exact hzs5) (by rw [size_pk, hzs5]) hzo5.out ?_
  intro w6 hg6 hb6 hz6
  have hB6 := hB5.out.trans (hb6.mono hB5.out.size)
  clear hb6 hg6 hzo5 hB5
  replace hB6 := hide hB6
  iterate 1 (refine wpList_plain rfl fun K hK => ?_; go_simp; refine hK _ _ ?_; clear hK K)
  refine wpList_nil ?_
  go_wp2_with fail
  refine (awake_any _).mono ?_
  rintro e w7 ⟨rfl, hb7⟩
  have hB7 := hB6.out.trans (hb7.mono hB6.out.size)
  clear hb7 hB6
  replace hB7 := hide hB7
  go_wp2_with fail
  go_ret
  exact ⟨rfl, hB7.out⟩
end Pkt
end Go.Proofs.Ytdmgbngdpjcliaa
