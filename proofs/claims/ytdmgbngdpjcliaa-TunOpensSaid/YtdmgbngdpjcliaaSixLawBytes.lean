/- The law's bytes of a header, those that extend it, and what is behind, by contract. Conditions: slices that read as lists, numbers as a header may have them. -/
import Derived.Test.YtdmgbngdpjcliaaSixRight
import Derived.Test.YtdmgbngdpjcliaaAddrBytes
namespace Go.Proofs.Ytdmgbngdpjcliaa
open Go.RowKit Go.ChangeShapes Go.WideShapes Go.ChangeAt Go.Deep
theorem u8i {z : Int} {x : Nat} (h : z = (x : Int) % 256) : Value.int .u8 z = u8v (UInt8.ofNat x) := by rw [h, u8v_mod]
theorem list8 {α : Type} {a0 a1 a2 a3 a4 a5 a6 a7 b0 b1 b2 b3 b4 b5 b6 b7 : α} (h0 : a0 = b0) (h1 : a1 = b1) (h2 : a2 = b2) (h3 : a3 = b3) (h4 : a4 = b4) (h5 : a5 = b5) (h6 : a6 = b6) (h7 : a7 = b7) : [a0, a1, a2, a3, a4, a5, a6, a7] = [b0, b1, b2, b3, b4, b5, b6, b7] := by
  subst h0 h1 h2 h3 h4 h5 h6 h7; rfl
theorem drop_get {α : Type} {l : List α} {i : Nat} {e : α} (h : l[i]? = some e) : l.drop i = e :: l.drop (i + 1) := by
  obtain ⟨hl, rfl⟩ := List.getElem?_eq_some_iff.1 h
  exact List.drop_eq_getElem_cons hl
namespace Six
/-- A header's first eight bytes. -/
def hd8 (cls lab hop next T : Nat) : List UInt8 := [UInt8.ofNat (96 + cls / 16), UInt8.ofNat (cls % 16 * 16 + lab / 65536), UInt8.ofNat (lab / 256), UInt8.ofNat lab, UInt8.ofNat (T / 256), UInt8.ofNat T, UInt8.ofNat next, UInt8.ofNat hop]
/-- All of it. -/
def allB6 (cls lab hop shi slo dhi dlo proto : Nat) (es : List (Int × List UInt8)) (ps : List UInt8) : List UInt8 :=
  hd8 cls lab hop (nextP es proto).toNat (extB es proto ++ ps).length ++ addrB true shi slo ++ addrB true dhi dlo ++ (extB es proto ++ ps)
theorem sumP_le (es : List (Int × List UInt8)) (h : ∀ e ∈ es, e.2.length ≤ 2047) : sumP es ≤ es.length * 2048 := by
  induction es with
  | nil => simp [sumP]
  | cons e es ih =>
    have h1 := ih fun x hx => h x (by simp [hx])
    have h2 := h e (by simp)
    simp only [sumP, List.map_cons, List.sum_cons, List.length_cons] at h1 ⊢
    omega
set_option maxRecDepth 20000 in
set_option maxHeartbeats 8000000 in
theorem lawBytes_any (cls lab hop : Nat) (sv : Bool) (shi slo : Nat) (dv : Bool) (dhi dlo : Nat) (X : Option Addr) (n c : Nat) (proto : Nat) (es : List Ext) (P : Option Addr) (m d : Nat) (ps : List UInt8) (w : World)
    (hx : IsX w w.heap.size X n es) (_hnc : n ≤ c) (_hcm : c ≤ maxLen) (hp : IsB w w.heap.size P m ps) (_hmd : m ≤ d) (_hdm : d ≤ maxLen) (hsv : sv = true) (hdv : dv = true)
    (b1 : cls ≤ 255) (b2 : lab ≤ 1048575) (b3 : hop ≤ 255) (b4 : proto ≤ 255) (b5 : shi < 18446744073709551616) (b6 : slo < 18446744073709551616) (b7 : dhi < 18446744073709551616) (b8 : dlo < 18446744073709551616)
    (hn : n ≤ 8) (hm : m ≤ 4096) (hk : ∀ e ∈ es, 0 ≤ e.k ∧ e.k ≤ 255) (hl : ∀ e ∈ es, e.xs.length ≤ 2047) :
    Calls Try.prog 18 #[hdV cls lab hop sv shi slo dv dhi dlo X n c proto, .slice P m d] w fun e w' => ∃ v, e = .returned v ∧ OwnB w' w.heap.size v (allB6 cls lab hop shi slo dhi dlo proto (pes es) ps) ∧ Below w.heap.size w w' := by
  subst hsv hdv
  have hbox := blk_new w 29 #[.int .i64 cls, .int .i64 lab, .int .i64 hop, .bool true, .int .u64 shi, .int .u64 slo, .bool true, .int .u64 dhi, .int .u64 dlo, .slice X n c, .int .i64 proto]
  obtain ⟨w1, hw1⟩ : ∃ w1, w.alloc (hdC cls lab hop true shi slo true dhi dlo X n c proto) = w1 := ⟨_, rfl⟩
  have hb1 : Below w.heap.size w w1 := hw1 ▸ (Below.refl _ _).alloc (Nat.le_refl _) _
  have hlt1 : w.heap.size < w1.heap.size := by rw [← hw1]; simp
  unfold hdC at hw1
  rw [hw1] at hbox
  have hcg := blk_cell hbox
  have hx1 := hx.on hb1
  have hp1 := hp.on hb1
  have hpl : (pes es).length = n := by rw [pes_length]; exact hx.1
  have hel := hx.1
  have hpm := hp.1
  have hsum : (extB (pes es) proto).length ≤ 16384 := by
    rw [extB_length]
    have := sumP_le (pes es) (fun e he => by obtain ⟨e', he', rfl⟩ := List.mem_map.1 he; exact hl e' he')
    rw [hpl] at this
    omega
  replace hx := hide hx
  replace hx1 := hide hx1
  replace hp := hide hp
  replace hp1 := hide hp1
  replace hb1 := hide hb1
  replace hbox := hide hbox
  replace hpl := hide hpl
  replace hk := hide hk
  replace hl := hide hl
  replace hel := hide hel
  replace hpm := hide hpm
  replace hsum := hide hsum
  unfold hdV
  go_enter Try.func18, Try.ntmps18
  go_wp2_with fail
  clear hw1
  go_loopw [5, 6, 7] (fun u nv i wr => ∃ (j nx : Nat) (ts : List UInt8), j ≤ n ∧ i = .int .i64 ((j : Int) - 1) ∧ nv = .int .i64 (nx : Int) ∧ nextP ((pes es).drop j) proto = (nx : Int) ∧ nx ≤ 255 ∧ extB ((pes es).drop j) proto = ts ∧ OwnB wr w1.heap.size u ts ∧ Below w1.heap.size w1 wr) (fun _ _ i _ => (intOf i + 1).toNat)
  case atStart => exact ⟨n, proto, [], Nat.le_refl _, rfl, rfl, by rw [List.drop_of_length_le (by rw [hpl.out]; exact Nat.le_refl _)]; rfl, b4, by rw [List.drop_of_length_le (by rw [hpl.out]; exact Nat.le_refl _)]; rfl, OwnB.nil _ _, Below.refl _ _⟩
  case round =>
    obtain ⟨j, nx, ts, hj, rfl, rfl, hnx, hnx2, hts, hu, hbr⟩ := hrel
    have hxr := hx1.out.on hbr
    have hgr := blk_below hbr hlt1 hbox.out
    have hz1r := hbr.size
    have hltr := Nat.lt_of_lt_of_le hlt1 hz1r
    have htl : ts.length ≤ 16384 := by
      rw [← hts]
      have h1 := hsum.out
      rw [extB_length] at h1 ⊢
      have h2 : sumP (pes es) = sumP ((pes es).take j) + sumP ((pes es).drop j) := by
        unfold sumP
        rw [← List.sum_append, ← List.map_append, List.take_append_drop]
      omega
    clear hcg
    have hcg := blk_cell hgr
    rcases j with _ | i
    · rw [List.drop_zero] at hnx hts
      have hpr := hp1.out.on hbr
      replace hxr := hide hxr
      replace hnx := hide hnx
      replace hts := hide hts
      replace hu := hide hu
      replace hbr := hide hbr
      replace hgr := hide hgr
      replace hpr := hide hpr
      go_wp2_with (at_builtin; refine wpl_src_bv rfl (.tmp 40) (.tmp 41) rfl w1.heap.size _ ts ps P m d wr.heap.size rfl rfl hu.out hpr.out hz1r ?_ ?_)
      · omega
      intro v4 w4 hown4 hg4
      have hb4 := hg4.below hu.out hz1r
      have hB4 := hbr.out.trans hb4
      have hz4 := hB4.size
      have hg4' := blk_below hB4 hlt1 hbox.out
      obtain ⟨T, hT⟩ : ∃ T, (ts ++ ps).length = T := ⟨_, rfl⟩
      have hT2 : T ≤ 20480 := by rw [← hT, List.length_append, hpm.out]; omega
      obtain ⟨A4, c4, rfl, hc4, hm4, hi4⟩ := hown4.form
      rw [hT] at hc4 hi4 ⊢
      clear hown4 hcg hg4
      have hcg := blk_cell hg4'
      have hlt4 := Nat.lt_of_lt_of_le hlt1 hz4
      replace hb4 := hide hb4
      replace hB4 := hide hB4
      replace hg4' := hide hg4'
      replace hT := hide hT
      replace hi4 := hide hi4
      go_wp2_with fail
      refine (addrBytes_any true shi slo _ b5 b6).mono ?_
      rintro e w6 ⟨v6, rfl, hown6, hb6⟩
      have hlit := (OwnB.litv w4 w4.heap.size _ (hd8 cls lab hop nx T) 8 ?hv rfl (Nat.le_refl _) (by omega)).below hb6
      case hv => exact list8 (u8i (by omega)) (u8i (by omega)) (u8i (by omega)) (u8i (by omega)) (u8i (by omega)) (u8i (by omega)) (u8i (by omega)) (u8i (by omega))
      have hbl : Below w4.heap.size w4 w6 := ((Below.refl _ _).alloc (Nat.le_refl _) _).trans (hb6.mono (by simp))
      have hz6 := hbl.size
      have hBx6 := hB4.out.trans (hbl.mono hz4)
      have hg6 := blk_below hBx6 hlt1 hbox.out
      have hi46 := hi4.out.below hbl
      obtain ⟨A6, c6, rfl, hc6, hm6, hi6⟩ := hown6.form
      clear hcg hown6 hb6
      have hcg := blk_cell hg6
      have hal : (addrB true shi slo).length = 16 := by simp [addrB, beB_length]
      rw [hal] at hc6 hi6 ⊢
      replace hlit := hide hlit
      replace hbl := hide hbl
      replace hBx6 := hide hBx6
      replace hg6 := hide hg6
      replace hi46 := hide hi46
      replace hi6 := hide hi6
      replace hal := hide hal
      go_wp2_with (at_builtin; refine wpl_src_bv rfl (.tmp 77) (.tmp 80) rfl w4.heap.size _ (hd8 cls lab hop nx T) (addrB true shi slo) A6 16 c6 w6.heap.size rfl rfl hlit.out hi6.out hz6 ?_ ?_)
      · rw [show (hd8 cls lab hop nx T).length = 8 from rfl]; omega
      intro v7 w7 hown7 hg7
      have hb7 := hbl.out.trans (hg7.below hlit.out hz6)
      have hz7 := hb7.size
      have hBx7 := hB4.out.trans (hb7.mono hz4)
      have hg7' := blk_below hBx7 hlt1 hbox.out
      clear hcg hg7
      have hcg := blk_cell hg7'
      replace hown7 := hide hown7
      replace hb7 := hide hb7
      replace hBx7 := hide hBx7
      replace hg7' := hide hg7'
      go_wp2_with fail
      refine (addrBytes_any true dhi dlo _ b7 b8).mono ?_
      rintro e w8 ⟨v8, rfl, hown8, hb8⟩
      have hown78 := hown7.out.below hb8
      have hb8' := hb7.out.trans (hb8.mono hz7)
      have hz8 := hb8'.size
      obtain ⟨A8, c8, rfl, hc8, hm8, hi8⟩ := hown8.form
      have hal2 : (addrB true dhi dlo).length = 16 := by simp [addrB, beB_length]
      rw [hal2] at hc8 hi8 ⊢
      clear hcg hown8 hb8
      replace hown78 := hide hown78
      replace hb8' := hide hb8'
      replace hi8 := hide hi8
      replace hal2 := hide hal2
      go_wp2_with (at_builtin; refine wpl_src_bv rfl (.tmp 82) (.tmp 85) rfl w4.heap.size v7 (hd8 cls lab hop nx T ++ addrB true shi slo) (addrB true dhi dlo) A8 16 c8 w8.heap.size rfl rfl hown78.out hi8.out hz8 ?_ ?_)
      · rw [List.length_append, hal.out, show (hd8 cls lab hop nx T).length = 8 from rfl]; omega
      intro v9 w9 hown9 hg9
      have hb9 := hb8'.out.trans (hg9.below hown78.out hz8)
      have hz9 := hb9.size
      have hi49 := hi4.out.below hb9
      clear hg9
      replace hown9 := hide hown9
      replace hb9 := hide hb9
      replace hi49 := hide hi49
      go_wp2_with (at_builtin; refine wpl_src_bv rfl (.tmp 87) (.tmp 88) rfl w4.heap.size v9 (hd8 cls lab hop nx T ++ addrB true shi slo ++ addrB true dhi dlo) (ts ++ ps) A4 T c4 w4.heap.size rfl rfl ?_ hi49.out hz9 ?_ ?_)
      · simpa using hown9.out
      · rw [List.length_append, List.length_append, hal.out, hal2.out, show (hd8 cls lab hop nx T).length = 8 from rfl]; omega
      intro v10 w10 hown10 hg10
      have hbX := hB4.out.trans ((hb9.out.trans (hg10.below (by simpa using hown9.out) hz9)).mono hz4)
      have hfin : (hd8 cls lab hop nx T ++ addrB true shi slo ++ addrB true dhi dlo) ++ (ts ++ ps) = allB6 cls lab hop shi slo dhi dlo proto (pes es) ps := by
        unfold allB6
        rw [hts.out, hT.out, hnx.out]
        simp
      have hown11 : OwnB w10 w4.heap.size v10 (allB6 cls lab hop shi slo dhi dlo proto (pes es) ps) := by rw [← hfin]; simpa using hown10
      clear hg10 hown10
      replace hown11 := hide hown11
      replace hbX := hide hbX
      go_wp2_with fail
      go_ret
      exact ⟨_, rfl, hown11.out.weaken (by omega), hb1.out.trans (hbX.out.mono (by omega))⟩
    · have e1 : (((i + 1 : Nat) : Int) - 1) = (i : Int) := by omega
      rw [e1]
      obtain ⟨b, off, k, Ae, ce, xs, rfl, hbl, hge, hc0, hc1, hbx, hxc, hxm⟩ := hxr.at (i := i) (by omega)
      have hpg := pes_get hge
      have hkb := hk.out ⟨k, Ae, ce, xs⟩ (List.mem_of_getElem? hge)
      have hxl : xs.length ≤ 2047 := hl.out ⟨k, Ae, ce, xs⟩ (List.mem_of_getElem? hge)
      obtain ⟨kn, rfl⟩ : ∃ kn : Nat, k = (kn : Int) := ⟨k.toNat, by have := hkb.1; dsimp only at this; omega⟩
      have hkn : kn ≤ 255 := by have := hkb.2; dsimp only at this; omega
      have hji : (i : Int) < (n : Int) := by omega
      have hj0 : (0 : Int) ≤ (i : Int) := by omega
      obtain ⟨At, ct, rfl, hct, hmt, hit⟩ := hu.form
      have hlit := OwnB.litv wr wr.heap.size [.int .u8 (nx : Int)] [UInt8.ofNat nx] 1 (by simp only [List.map_cons, List.map_nil]; rw [u8v_nat _ (by omega)]) rfl (Nat.le_refl _) (by omega)
      clear hge hkb hu
      replace hxr := hide hxr
      replace hnx := hide hnx
      replace hts := hide hts
      replace hbr := hide hbr
      replace hgr := hide hgr
      replace hc0 := hide hc0
      replace hc1 := hide hc1
      replace hbx := hide hbx
      replace hpg := hide hpg
      replace hit := hide hit
      replace hlit := hide hlit
      have hd0 := hc0.out
      have hd1 := hc1.out
      go_wp2_with (at_builtin; refine wpl_src_bv rfl (.tmp 22) (.tmp 28) rfl wr.heap.size (.slice (some ⟨wr.heap.size, 0, none⟩) 1 1) [UInt8.ofNat nx] xs Ae xs.length ce wr.heap.size rfl rfl ?_ ?_ ?_ ?_ ?_)
      · exact OwnB.litv wr wr.heap.size _ [UInt8.ofNat nx] 1 (congrArg (fun x => [x]) (u8i (by omega))) rfl (Nat.le_refl _) (by omega)
      · exact hbx.out.below ((Below.refl _ _).alloc (Nat.le_refl _) _)
      · first | omega | simp
      intro v2 w2 hown2 hg2
      have hb2 : Below wr.heap.size wr w2 := ((Below.refl _ _).alloc (Nat.le_refl _) _).trans (hg2.below (OwnB.litv wr wr.heap.size _ [UInt8.ofNat nx] 1 (congrArg (fun x => [x]) (u8i (by omega))) rfl (Nat.le_refl _) (by omega)) (by simp))
      have hz2 := hb2.size
      have hit2 := hit.out.below hb2
      have hown2' : OwnB w2 wr.heap.size v2 (UInt8.ofNat nx :: xs) := by simpa using hown2
      clear hg2 hcg hd0 hd1 hown2
      replace hb2 := hide hb2
      replace hit2 := hide hit2
      replace hown2' := hide hown2'
      go_wp2_with (at_builtin; refine wpl_src_bv rfl (.tmp 30) (.tmp 31) rfl wr.heap.size v2 (UInt8.ofNat nx :: xs) ts At ts.length ct wr.heap.size rfl rfl hown2'.out hit2.out hz2 ?_ ?_)
      · rw [List.length_cons]; omega
      intro v3 w3 hown3 hg3
      have hb3 : Below wr.heap.size wr w3 := hb2.out.trans (hg3.below hown2'.out hz2)
      have hg3' := blk_below hb3 hltr hgr.out
      have hcg := blk_cell hg3'
      have hd0 := (hb3.cell (p := ⟨b, off + i * 2, none⟩) hbl).trans hc0.out
      have hB3 := hbr.out.trans (hb3.mono hz1r)
      have hown3' : OwnB w3 w1.heap.size v3 (UInt8.ofNat nx :: (xs ++ ts)) := by simpa using hown3.weaken hz1r
      have hnx3 : nextP ((pes es).drop i) proto = (kn : Int) := by rw [drop_get hpg.out]; rfl
      have hts3 : extB ((pes es).drop i) proto = UInt8.ofNat nx :: (xs ++ ts) := by
        rw [drop_get hpg.out, extB, hnx.out, hts.out]
        rfl
      clear hg3 hown3
      replace hb3 := hide hb3
      replace hg3' := hide hg3'
      replace hB3 := hide hB3
      replace hown3' := hide hown3'
      replace hnx3 := hide hnx3
      replace hts3 := hide hts3
      go_wp2_with fail
      exact ⟨⟨i, kn, _, by omega, rfl, rfl, hnx3.out, hkn, hts3.out, hown3'.out, hB3.out⟩, by simp [intOf] <;> omega⟩
end Six
end Go.Proofs.Ytdmgbngdpjcliaa
