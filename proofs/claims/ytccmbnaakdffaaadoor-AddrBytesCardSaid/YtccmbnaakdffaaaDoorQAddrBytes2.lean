/- The walk of AddrBytes: it answers true. Condition: the cell of bytealg.MaxLen. -/
import Derived.Test.YtccmbnaakdffaaaDoorQAddrBytes1
import Derived.Test.YtccmbnaakdffaaaDoorQAddrParses9
namespace Go.Proofs.YtccmbnaakdffaaaDoor
open Go.RowKit Go.ChangeShapes Go.WideShapes Go.ChangeAt Go.Deep
namespace Addr05
set_option maxRecDepth 20000 in
set_option maxHeartbeats 8000000 in
theorem bytes_walk (v6 : Bool) (hi lo : Nat) (hhi : hi < 18446744073709551616) (hlo : lo < 18446744073709551616) (A : Option Addr) (n c : Nat) (xs : List UInt8) (i : Int) (hi1 : -9223372036854775808 ≤ i) (hi2 : i ≤ 9223372036854775807) (w : World) (hx : IsB w w.heap.size A n xs) (hnc : n ≤ c) (hcm : c ≤ maxLen) (hm : MaxAt w) :
    Calls Tryd.prog 6 #[.agg #[.bool v6, .int .u64 (hi : Int), .int .u64 (lo : Int)], .slice A n c, .int .i64 i] w fun e w' => e = .returned (.bool true) ∧ Below w.heap.size w w' := by
  obtain ⟨w1, hw1⟩ : ∃ w1, w.alloc (.cells #[.bool v6, .int .u64 (hi : Int), .int .u64 (lo : Int)] 24) = w1 := ⟨_, rfl⟩
  have hB : Below w.heap.size w w1 := hw1 ▸ (Below.refl _ _).alloc (Nat.le_refl _) _
  have hg : w1.heap[w.heap.size]? = some (.cells #[.bool v6, .int .u64 (hi : Int), .int .u64 (lo : Int)] 24 (0, 0)) := hw1 ▸ blk_new _ _ _
  have hm1 := hm.below hB
  have hx1 := hx.on hB
  have hl := hx.1
  clear hx hm
  replace hB := hide hB
  replace hg := hide hg
  replace hm1 := hide hm1
  replace hx1 := hide hx1
  go_enter Tryd.func6, Tryd.ntmps6
  go_upto_if 18 with fail
  clear hw1
  go_cut [1] (fun sv wx => (∃ A' n' c', sv = .slice A' n' c' ∧ IsB w1 w1.heap.size A' n' (xs.take 40) ∧ n' ≤ 40 ∧ n' ≤ c' ∧ c' ≤ maxLen) ∧ w1 = wx)
  case first =>
    by_cases h40 : 40 < n
    · have t1 : decide ((40 : Int) < (n : Int)) = true := by rw [decide_eq_true_eq]; omega
      have i1 : (40 : Int) ≤ (c : Int) := by omega
      obtain ⟨b, off, rfl, hb, -⟩ := hx1.out.ptr (by omega)
      go_wp2_with fail
      go_meet
      exact ⟨⟨some ⟨b, off, none⟩, 40, c, rfl, hx1.out.take (by omega), Nat.le_refl _, by omega, hcm⟩, rfl⟩
    · have t1 : decide ((40 : Int) < (n : Int)) = false := by rw [decide_eq_false_iff_not]; omega
      have t2 : decide (40 < n) = false := by rw [decide_eq_false_iff_not]; omega
      have e1 : xs.take 40 = xs := List.take_of_length_le (by omega)
      replace e1 := hide e1
      go_wp2_with fail
      go_meet
      exact ⟨⟨A, n, c, rfl, by rw [e1.out]; exact hx1.out, by omega, hnc, hcm⟩, rfl⟩
  case rest =>
    obtain ⟨⟨A', n', c', rfl, hxb, hn40, hnc', hcm'⟩, rfl⟩ := hcut
    clear hx1 hl hnc hcm
    obtain ⟨ys, hys⟩ : ∃ ys, xs.take 40 = ys := ⟨_, rfl⟩
    rw [hys] at hxb
    clear hys
    replace hxb := hide hxb
    have hBy := addrBytes_any v6 hi lo w1 hhi hlo
    unfold addrV at hBy
    have hXl := addrB_len v6 hi lo
    have hXg := addrB_get v6 hi lo
    have hXb := addrB_bit ⟨v6, hi, lo⟩
    have hXo := bit_out ⟨v6, hi, lo⟩
    have hOf := of_bytes ⟨v6, hi, lo⟩ ⟨hhi, hlo⟩
    have hob := of_back ys
    have hBits : ∀ w : World, Calls Tryd.prog 22 #[.agg #[.bool v6, .int .u64 (hi : Int), .int .u64 (lo : Int)]] w fun e w' => e = .returned (.int .i64 ((8 * szA v6 : Nat) : Int)) ∧ Below w.heap.size w w' := by
      intro w
      have h := Bits_any v6 (hi : Int) (lo : Int) w
      have e : (if v6 = true then (128 : Int) else 32) = ((8 * szA v6 : Nat) : Int) := by cases v6 <;> rfl
      rwa [e] at h
    have hBit := Bit_any ⟨v6, hi, lo⟩ ⟨hhi, hlo⟩ i hi1 hi2
    have hR := fun w => right_any v6 hi lo w
    have hri := rightB_iff ⟨v6, hi, lo⟩
    have hA := awake_any
    have hv4 : v6 = false → szA v6 = 4 := fun h => by rw [h]; rfl
    have hv16 : v6 = true → szA v6 = 16 := fun h => by rw [h]; rfl
    have hs4 : szA v6 = 4 ∨ szA v6 = 16 := by cases v6; exact .inl rfl; exact .inr rfl
    dsimp only at hXb hXo hOf hBit hri
    obtain ⟨X, hX⟩ : ∃ x, addrB v6 hi lo = x := ⟨_, rfl⟩
    obtain ⟨sz, hsz⟩ : ∃ x, szA v6 = x := ⟨_, rfl⟩
    rw [hX] at hBy hXl hXg hXb hOf
    rw [hsz] at hXl hXg hXb hXo hBits hv4 hv16 hs4
    obtain ⟨RB, hRB⟩ : ∃ x, rightB v6 hi lo = x := ⟨_, rfl⟩
    rw [hRB] at hR hri
    clear hX hsz hRB
    replace hBy := hide hBy
    replace hXg := hide hXg
    replace hXb := hide hXb
    replace hXo := hide hXo
    replace hOf := hide hOf
    replace hob := hide hob
    replace hBits := hide hBits
    replace hBit := hide hBit
    replace hR := hide hR
    replace hri := hide hri
    replace hA := hide hA
    replace hv4 := hide hv4
    replace hv16 := hide hv16
    have hcg := blk_cell hg.out
    go_wp2_with fail
    refine hBy.out.mono ?_
    rintro e w2 ⟨vx, rfl, hox, hb2⟩
    clear hcg
    obtain ⟨A2, c2, rfl, hc2, hcm2, hxx⟩ := hox.form
    rw [hXl] at hc2 hxx ⊢
    clear hox hBy
    replace hB := hide (hB.out.trans (hb2.mono hB.out.size))
    replace hg := hide (blk_on hb2 hg.out)
    replace hm1 := hide (hm1.out.below hb2)
    replace hxb := hide (hxb.out.on hb2)
    clear hb2
    replace hxx := hide hxx
    have hcg := blk_cell hg.out
    go_upto_if 24 with fail
    go_cut [8] (fun sv wx => sv = .int .i64 (sz : Int) ∧ w2 = wx)
    case first =>
      cases v6
      · have e4 := hv4.out rfl
        replace e4 := hide e4
        go_wp2_with fail
        go_meet
        exact ⟨by rw [e4.out]; rfl, rfl⟩
      · have e4 := hv16.out rfl
        replace e4 := hide e4
        go_wp2_with fail
        go_meet
        exact ⟨by rw [e4.out]; rfl, rfl⟩
    case rest =>
      obtain ⟨rfl, rfl⟩ := hcut
      obtain ⟨s8, hs8⟩ : ∃ x, 8 * sz = x := ⟨_, rfl⟩
      have ws8 : IntKind.i64.wrap (8 * (sz : Int)) = (s8 : Int) := by rw [wraps62 _ (by omega) (by omega)]; omega
      rw [hs8] at hXb hXo hBits
      replace hs8 := hide hs8
      clear hv4 hv16
      go_wp2_with fail
      refine (hBits.out w2).mono ?_
      rintro e w3 ⟨rfl, hb3⟩
      clear hcg
      replace hB := hide (hB.out.trans (hb3.mono hB.out.size))
      replace hg := hide (blk_on hb3 hg.out)
      replace hm1 := hide (hm1.out.below hb3)
      replace hxb := hide (hxb.out.on hb3)
      replace hxx := hide (hxx.out.on hb3)
      clear hb3
      have hcg := blk_cell hg.out
      go_wp2_with fail
      have hzg := World.block_lt_of_cell? w3 _ (hcg 0)
      have hxv := fun (k : Nat) (hk : k < sz) => hxx.out.byte hk
      go_loopw [9, 10] (fun iv nv wr => ∃ k : Nat, k ≤ sz ∧ iv = .int .i64 (k : Int) ∧ Below w3.heap.size w3 wr) (fun iv _ _ => sz - (intOf iv).toNat)
      case atStart => exact ⟨0, by omega, rfl, Below.refl _ _⟩
      case round =>
        obtain ⟨k, hk, rfl, hbr⟩ := hrel
        clear hcg hxv
        replace hzg := hide hzg
        replace hB := hide (hB.out.trans (hbr.mono hB.out.size))
        replace hg := hide (blk_on hbr hg.out)
        replace hm1 := hide (hm1.out.below hbr)
        replace hxb := hide (hxb.out.on hbr)
        replace hxx := hide (hxx.out.on hbr)
        replace hbr := hide hbr
        have hcg := blk_cell hg.out
        by_cases hks : k < sz
        · have j1 : (k : Int) < (sz : Int) := by omega
          have j2 : (0 : Int) ≤ (k : Int) := by omega
          have hN := hXg.out k hks
          obtain ⟨d, hd⟩ : ∃ d, sz - k = d := ⟨_, rfl⟩
          have wd1 : IntKind.i64.wrap ((sz : Int) - (k : Int)) = (d : Int) := by rw [wraps62 _ (by omega) (by omega)]; omega
          rw [hd] at hN
          obtain ⟨N, hNd⟩ : ∃ N, (if 8 < d then hi else lo) = N := ⟨_, rfl⟩
          have hNl : N < 18446744073709551616 := by rw [← hNd]; split <;> assumption
          rw [hNd] at hN
          obtain ⟨b, off, v, rfl, hb, hv, hvl, hcv⟩ := hxx.out.byte hks
          rw [hv] at hN
          replace hNd := hide hNd
          replace hv := hide hv
          go_upto_if 46 with fail
          go_cut [10] from 36 to 62 (fun nv wx => nv = .int .u64 (N : Int) ∧ wr = wx)
          case first =>
            have hNd' := hNd.out
            by_cases h8 : 8 < d
            · have t8 : decide ((8 : Int) < (d : Int)) = true := by rw [decide_eq_true_eq]; omega
              rw [if_pos h8] at hNd'
              replace hNd' := hide hNd'
              replace hN := hide hN
              replace hd := hide hd
              go_wp2_with fail
              go_meet
              exact ⟨by rw [← hNd'.out], rfl⟩
            · have t8 : decide ((8 : Int) < (d : Int)) = false := by rw [decide_eq_false_iff_not]; omega
              rw [if_neg h8] at hNd'
              replace hNd' := hide hNd'
              replace hN := hide hN
              replace hd := hide hd
              go_wp2_with fail
              go_meet
              exact ⟨by rw [← hNd'.out], rfl⟩
          case rest =>
            obtain ⟨rfl, rfl⟩ := hcut
            obtain ⟨e, he⟩ : ∃ e, sz - 1 = e := ⟨_, rfl⟩
            have we : IntKind.i64.wrap ((sz : Int) - 1) = (e : Int) := by rw [wraps62 _ (by omega) (by omega)]; omega
            obtain ⟨f, hf⟩ : ∃ f, e - k = f := ⟨_, rfl⟩
            have wf : IntKind.i64.wrap ((e : Int) - (k : Int)) = (f : Int) := by rw [wraps62 _ (by omega) (by omega)]; omega
            obtain ⟨g, hgm⟩ : ∃ g, f % 8 = g := ⟨_, rfl⟩
            have wg : Int.tmod (f : Int) 8 = (g : Int) := by rw [Int.tmod_eq_emod_of_nonneg (by omega)]; omega
            have wg2 : (f : Int) % 8 = (g : Int) := by omega
            obtain ⟨h, hh⟩ : ∃ h, 8 * g = h := ⟨_, rfl⟩
            have wh : IntKind.i64.wrap (8 * (g : Int)) = (h : Int) := by rw [wraps62 _ (by omega) (by omega)]; omega
            have j3 : (0 : Int) ≤ (h : Int) := by omega
            have min64 : min h 64 = h := by omega
            rw [he, hf, hgm, hh] at hN
            have wN : IntKind.u8.wrap ((N : Int) / 2 ^ h) = (v : Int) := by
              rw [IntKind.wrap_u8, hN]
              push_cast
              rfl
            have hcl := fun l : Later wr => (World.cell?_of_block (l.hb.block b hb)).trans hcv
            clear hcg hN
            replace he := hide he
            replace hf := hide hf
            replace hgm := hide hgm
            replace hh := hide hh
            replace hd := hide hd
            go_upto_region 15 with fail
            refine wp_region_L (by as_aux_lemma => kernel_rfl) ?_
            refine wpE_seg 0 14 (fuel := 0) (by as_aux_lemma => kernel_rfl) (fun d _ _ _ _ h => by cases d <;> exact h) (by as_aux_lemma => kernel_rfl) (by as_aux_lemma => kernel_rfl) ?_
            simp only [List.drop_zero, List.take_succ_cons, List.take_zero]
            iterate 14 (refine wpQE_step (fun K hK => ?_); go_simp; refine hK _ ?_; clear hK K)
            refine wpQE_nil ?_
            refine wpE_done (by as_aux_lemma => kernel_rfl) (fun w4 hb4 => ?_) 0
            clear hcl
            go_wp2_with fail
            refine ⟨⟨k + 1, by omega, by first | rfl | go_num, hbr.out.trans (hb4.mono hbr.out.size)⟩, by simp only [intOf]; omega⟩
        · obtain rfl : k = sz := by omega
          have j1 : ((k : Int) < (k : Int)) = False := by simp
          clear hbr hzg hXg hcg hk
          obtain ⟨bI, hbI⟩ : ∃ x, bitI ⟨v6, hi, lo⟩ i = x := ⟨_, rfl⟩
          rw [hbI] at hBit
          replace hbI := hide hbI
          replace hks := hide hks
          obtain ⟨tb, htb⟩ : ∃ x, (decide (0 ≤ i) && decide (i < (s8 : Int))) = x := ⟨_, rfl⟩
          replace htb := hide htb
          go_upto_region 18 with fail
          go_cut [70] (fun bv wx => bv = .bool tb ∧ wr = wx)
          case first =>
            by_cases h0 : 0 ≤ i
            · by_cases h8 : i < (s8 : Int)
              · go_wp2_with fail
                go_meet
                exact ⟨by rw [← htb.out]; simp [h0, h8], rfl⟩
              · go_wp2_with fail
                go_meet
                exact ⟨by rw [← htb.out]; simp [h0, h8], rfl⟩
            · go_wp2_with fail
              go_meet
              exact ⟨by rw [← htb.out]; simp; omega, rfl⟩
          case rest =>
            obtain ⟨rfl, rfl⟩ := hcut
            go_upto_if 70 with fail
            go_cut [11] (fun bv wx => bv = .int .i64 bI ∧ wr = wx)
            case first =>
              cases tb
              · have hb0 : bI = 0 := by
                  have h1 := htb.out
                  rw [← hbI.out]
                  unfold bitI
                  by_cases h0 : 0 ≤ i
                  · have h8 : ¬ i < (s8 : Int) := by simpa [h0] using h1
                    rw [if_pos h0, hXo.out i.toNat (by omega)]
                    rfl
                  · rw [if_neg h0]
                subst hb0
                go_wp2_with fail
                go_meet
                exact ⟨rfl, rfl⟩
              · have h1 : 0 ≤ i ∧ i < (s8 : Int) := by have := htb.out; simpa using this
                obtain ⟨m, rfl⟩ : ∃ m : Nat, i = (m : Int) := ⟨i.toNat, by omega⟩
                obtain ⟨q, hq⟩ : ∃ q, m / 8 = q := ⟨_, rfl⟩
                obtain ⟨r, hr⟩ : ∃ r, m % 8 = r := ⟨_, rfl⟩
                have hsk := hs8.out
                have d1 : Int.tdiv (m : Int) 8 = (q : Int) := by rw [Int.tdiv_eq_ediv_of_nonneg (by omega)]; omega
                have d2 : (m : Int) / 8 = (q : Int) := by omega
                have d3 : Int.tmod (m : Int) 8 = (r : Int) := by rw [Int.tmod_eq_emod_of_nonneg (by omega)]; omega
                have d4 : (m : Int) % 8 = (r : Int) := by omega
                obtain ⟨s, hs⟩ : ∃ s, 7 - r = s := ⟨_, rfl⟩
                have ws : IntKind.i64.wrap (7 - (r : Int)) = (s : Int) := by rw [wraps62 _ (by omega) (by omega)]; omega
                have j0 : (0 : Int) ≤ (q : Int) := by omega
                have j1 : (q : Int) < (k : Int) := by omega
                have j2 : (0 : Int) ≤ (s : Int) := by omega
                have min8 : min s 8 = s := by omega
                obtain ⟨b, off, v, rfl, hb, hv, hvl, hcv⟩ := hxx.out.byte (show q < k by omega)
                have hbm := hXb.out m (by omega)
                rw [hq, hr, hs, hv] at hbm
                have hbI2 := hbI.out
                unfold bitI at hbI2
                rw [if_pos (by omega), Int.toNat_natCast, ← hbm] at hbI2
                have e1 : (v : Int) / 2 ^ s = ((v / 2 ^ s : Nat) : Int) := by push_cast; rfl
                have e2 : v / 2 ^ s ≤ v := Nat.div_le_self _ _
                obtain ⟨y, hy⟩ : ∃ y, v / 2 ^ s = y := ⟨_, rfl⟩
                rw [hy] at e1 e2 hbI2
                have wy : IntKind.i64.wrap (y : Int) = (y : Int) := wraps62 _ (by omega) (by omega)
                have hand : bits .and .i64 (y : Int) 1 = bI := by
                  rw [← hbI2]
                  exact bits_mask .i64 62 (by decide) wraps62 1 (by decide) _ (by omega) (by omega)
                clear hbm hbI hbI2 htb
                replace hq := hide hq
                replace hr := hide hr
                replace hs := hide hs
                replace hy := hide hy
                replace hsk := hide hsk
                replace hv := hide hv
                go_wp2_with fail
                go_meet
                exact ⟨rfl, rfl⟩
            case rest =>
              obtain ⟨rfl, rfl⟩ := hcut
              clear hbI hXb hXo hBits htb hs8
              obtain ⟨⟨yv, yh, yl⟩, hofR, hyr⟩ := hOf.out
              have hO := Of_any A2 k c2 X wr hxx.out hc2 hcm2 (by omega)
              rw [hofR] at hO
              have hO' : Calls Tryd.prog 23 #[.slice A2 k c2] wr fun e w' => e = .returned (.tuple #[.agg #[.bool yv, .int .u64 (yh : Int), .int .u64 (yl : Int)], .int .i64 0]) ∧ Below wr.heap.size wr w' := hO
              clear hOf hO hofR hxx
              replace hyr := hide hyr
              replace hO' := hide hO'
              go_upto_region 20 with fail
              apply wp_region_lit
              iterate 1 (refine wpList_plain rfl fun K hK => ?_; go_simp; refine hK _ _ ?_; clear hK K)
              refine wpList_plain rfl fun K hK => ?_
              go_simp
              refine (hO'.out).mono ?_
              rintro e w5 ⟨rfl, hb5⟩
              replace hB := hide (hB.out.trans (hb5.mono hB.out.size))
              replace hg := hide (blk_on hb5 hg.out)
              replace hm1 := hide (hm1.out.below hb5)
              replace hxb := hide (hxb.out.on hb5)
              clear hb5
              clear hO'
              go_simp
              refine hK _ _ ?_
              clear hK K
              iterate 3 (refine wpList_plain rfl fun K hK => ?_; go_simp; refine hK _ _ ?_; clear hK K)
              refine wpl_new rfl rfl 24 _ (alloc_adr _ rfl) 12 rfl (.tmp 85) rfl _ (fun _ => rfl) (fun _ => rfl) rfl (by kernel_rfl) (adr_one yv (yh : Int) (yl : Int)) ?_
              intro w6 hgy hb6 hz6
              replace hB := hide (hB.out.trans (hb6.mono hB.out.size))
              replace hg := hide (blk_on hb6 hg.out)
              replace hm1 := hide (hm1.out.below hb6)
              replace hxb := hide (hxb.out.on hb6)
              clear hb6
              replace hgy := hide hgy
              iterate 1 (refine wpList_plain rfl fun K hK => ?_; go_simp; refine hK _ _ ?_; clear hK K)
              refine wpList_nil ?_
              go_simp
              go_upto_region 21 with fail
              go_cut [104] (fun bv wx => bv = .bool false ∧ Below w6.heap.size w6 wx)
              case first =>
                have hcg := blk_cell hg.out
                go_wp2_with fail
                refine (hBit.out w6).mono ?_
                rintro e w7 ⟨rfl, hb7⟩
                have hg7 := blk_on hb7 hg.out
                have hgy7 := blk_on hb7 hgy.out
                clear hcg hBit
                have hcg := blk_cell hg7
                replace hb7 := hide hb7
                go_wp2_with fail
                refine (hR.out w7).mono ?_
                rintro e w8 ⟨rfl, hb8⟩
                have hg8 := blk_on hb8 hg7
                have hgy8 := blk_on hb8 hgy7
                have hb78 := hb7.out.trans (hb8.mono hb7.out.size)
                clear hcg hR hb7 hb8
                cases RB
                · replace hb78 := hide hb78
                  go_wp2_with fail
                  go_meet
                  exact ⟨rfl, hb78.out⟩
                · have heq := hyr.out (hri.out.1 rfl)
                  obtain ⟨rfl, rfl, rfl⟩ := Adr.mk.inj heq
                  have hcg := blk_cell hg8
                  have hcy := blk_cell hgy8
                  clear hri hyr
                  replace hb78 := hide hb78
                  go_wp2_with fail
                  go_meet
                  exact ⟨rfl, hb78.out⟩
              case rest =>
                obtain ⟨rfl, hb8⟩ := hcut
                replace hB := hide (hB.out.trans (hb8.mono hB.out.size))
                replace hg := hide (blk_on hb8 hg.out)
                replace hm1 := hide (hm1.out.below hb8)
                replace hxb := hide (hxb.out.on hb8)
                replace hgy := hide (blk_on hb8 hgy.out)
                clear hb8
                clear hBit hR hri hyr hgy
                obtain ⟨hlb, -⟩ := hxb.out
                have hlb : ys.length = n' := hlb
                have hO := Of_any A' n' c' ys wc hxb.out hnc' hcm' (by omega)
                rcases hob.out with ⟨hn, hn4, hn16⟩ | ⟨⟨zv, zh, zl⟩, hz, hzv, hzb, ⟨hz1, hz2⟩, hzl⟩
                · rw [hn] at hO
                  have hO' : Calls Tryd.prog 23 #[.slice A' n' c'] wc fun e w' => e = .returned (.tuple #[.agg #[.bool false, .int .u64 0, .int .u64 0], .int .i64 12]) ∧ Below wc.heap.size wc w' := hO
                  rw [hlb] at hn4 hn16
                  have t4 : ((n' : Int) != 4) = true := by rw [bne_iff_ne]; omega
                  have t16 : ((n' : Int) != 16) = true := by rw [bne_iff_ne]; omega
                  clear hob hO hn hlb hg hxb
                  replace hO' := hide hO'
                  replace hn4 := hide hn4
                  replace hn16 := hide hn16
                  go_upto_region 23 with fail
                  apply wp_region_lit
                  iterate 1 (refine wpList_plain rfl fun K hK => ?_; go_simp; refine hK _ _ ?_; clear hK K)
                  refine wpList_plain rfl fun K hK => ?_
                  go_simp
                  refine (hO'.out).mono ?_
                  rintro e w9 ⟨rfl, hb9⟩
                  replace hB := hide (hB.out.trans (hb9.mono hB.out.size))
                  replace hm1 := hide (hm1.out.below hb9)
                  clear hb9
                  clear hO'
                  go_simp
                  refine hK _ _ ?_
                  clear hK K
                  iterate 3 (refine wpList_plain rfl fun K hK => ?_; go_simp; refine hK _ _ ?_; clear hK K)
                  refine wpl_new rfl rfl 24 _ (alloc_adr _ rfl) 14 rfl (.tmp 108) rfl _ (fun _ => rfl) (fun _ => rfl) rfl (by kernel_rfl) (adr_one false 0 0) ?_
                  intro w10 hgz hb10 hz10
                  replace hB := hide (hB.out.trans (hb10.mono hB.out.size))
                  replace hm1 := hide (hm1.out.below hb10)
                  clear hb10
                  iterate 1 (refine wpList_plain rfl fun K hK => ?_; go_simp; refine hK _ _ ?_; clear hK K)
                  refine wpList_nil ?_
                  go_simp
                  have hcz := blk_cell hgz
                  replace hgz := hide hgz
                  go_wp2_with fail
                  refine (hA.out w10 hm1.out).mono ?_
                  rintro e w11 ⟨rfl, hb11⟩
                  replace hB := hide (hB.out.trans (hb11.mono hB.out.size))
                  replace hm1 := hide (hm1.out.below hb11)
                  clear hb11
                  clear hcz
                  go_wp2_with fail
                  go_ret
                  exact ⟨rfl, hB.out⟩
                · rw [hz] at hO
                  have hO' : Calls Tryd.prog 23 #[.slice A' n' c'] wc fun e w' => e = .returned (.tuple #[.agg #[.bool zv, .int .u64 (zh : Int), .int .u64 (zl : Int)], .int .i64 0]) ∧ Below wc.heap.size wc w' := hO
                  dsimp only at hzv hzb hz1 hz2
                  rw [hlb] at hzl hzv
                  have hBz := fun w => addrBytes_any zv zh zl w hz1 hz2
                  rw [hzb] at hBz
                  unfold addrV at hBz
                  clear hob hO hz hg hzb hlb
                  replace hO' := hide hO'
                  replace hBz := hide hBz
                  have fin : (n' = 4 ∧ zv = false) ∨ (n' = 16 ∧ zv = true) := by
                    rcases hzl with h | h
                    · exact .inl ⟨h, by rw [hzv, h]; rfl⟩
                    · exact .inr ⟨h, by rw [hzv, h]; rfl⟩
                  clear hzl hzv
                  rcases fin with ⟨rfl, rfl⟩ | ⟨rfl, rfl⟩
                  · go_upto_region 23 with fail
                    apply wp_region_lit
                    iterate 1 (refine wpList_plain rfl fun K hK => ?_; go_simp; refine hK _ _ ?_; clear hK K)
                    refine wpList_plain rfl fun K hK => ?_
                    go_simp
                    refine (hO'.out).mono ?_
                    rintro e w9 ⟨rfl, hb9⟩
                    replace hB := hide (hB.out.trans (hb9.mono hB.out.size))
                    replace hm1 := hide (hm1.out.below hb9)
                    replace hxb := hide (hxb.out.on hb9)
                    clear hb9
                    clear hO'
                    go_simp
                    refine hK _ _ ?_
                    clear hK K
                    iterate 3 (refine wpList_plain rfl fun K hK => ?_; go_simp; refine hK _ _ ?_; clear hK K)
                    refine wpl_new rfl rfl 24 _ (alloc_adr _ rfl) 14 rfl (.tmp 108) rfl _ (fun _ => rfl) (fun _ => rfl) rfl (by kernel_rfl) (adr_one false (zh : Int) (zl : Int)) ?_
                    intro w10 hgz hb10 hz10
                    replace hB := hide (hB.out.trans (hb10.mono hB.out.size))
                    replace hm1 := hide (hm1.out.below hb10)
                    replace hxb := hide (hxb.out.on hb10)
                    clear hb10
                    iterate 1 (refine wpList_plain rfl fun K hK => ?_; go_simp; refine hK _ _ ?_; clear hK K)
                    refine wpList_nil ?_
                    go_simp
                    have hcz := fun l : Later w10 => blk_cell (blk_on l.hb hgz)
                    have hcv : ∀ l : Later w10, (convert 38 9 (.slice A' 4 c')).run Tryd.prog l.w = .ok (.string (str ys)) l.w := fun l => IsB.str (IsB.on hxb.out l.hb) c'
                    have hcl := And.left hxb.out
                    replace hgz := hide hgz
                    replace hcl := hide hcl
                    go_upto_region 26 with fail
                    refine wp_region_L (by as_aux_lemma => kernel_rfl) ?_
                    refine wpE_seg 0 12 (fuel := 10) (by as_aux_lemma => kernel_rfl) (fun d _ _ _ _ h => by cases d <;> exact h) (by as_aux_lemma => kernel_rfl) (by as_aux_lemma => kernel_rfl) ?_
                    simp only [List.drop_zero, List.take_succ_cons, List.take_zero]
                    iterate 12 (refine wpQE_step (fun K hK => ?_); go_simp; refine hK _ ?_; clear hK K)
                    refine wpQE_nil ?_
                    refine wpE_seg 14 2 (fuel := 8) (by as_aux_lemma => kernel_rfl) (fun d _ _ _ _ h => by cases d <;> exact h) (by as_aux_lemma => kernel_rfl) (by as_aux_lemma => kernel_rfl) ?_
                    simp only [List.drop_succ_cons, List.drop_zero, List.take_succ_cons, List.take_zero]
                    iterate 2 (refine wpQE_step (fun K hK => ?_); go_simp; refine hK _ ?_; clear hK K)
                    refine wpQE_nil ?_
                    clear hcz hcv
                    refine wpE_step 12 (fuel := 7) rfl (by as_aux_lemma => kernel_rfl) (fun l K hK => ?_)
                    go_simp
                    go_at_call 21
                    refine (hBz.out l.w).mono ?_
                    rintro e w11 ⟨vz, rfl, hoz, hb11⟩
                    obtain ⟨A3, c3, rfl, hc3, hcm3, hxz⟩ := hoz.form
                    rw [hcl.out] at hxz ⊢
                    refine hK _ _ hb11 ?_
                    clear hK K hoz
                    have hcv : ∀ l2 : Later w11, (convert 38 9 (.slice A3 4 c3)).run Tryd.prog l2.w = .ok (.string (str ys)) l2.w := fun l2 => IsB.str (IsB.on hxz l2.hb) c3
                    have hm11 := (hm1.out.below l.hb).below hb11
                    have hB11 := hB.out.trans ((l.hb.trans (hb11.mono l.hb.size)).mono hB.out.size)
                    clear hb11 hxz
                    replace hB11 := hide hB11
                    replace hm11 := hide hm11
                    refine wpE_seg 13 1 (fuel := 6) (by as_aux_lemma => kernel_rfl) (fun d _ _ _ _ h => by cases d <;> exact h) (by as_aux_lemma => kernel_rfl) (by as_aux_lemma => kernel_rfl) ?_
                    simp only [List.drop_succ_cons, List.drop_zero, List.take_succ_cons, List.take_zero]
                    iterate 1 (refine wpQE_step (fun K hK => ?_); go_simp; refine hK _ ?_; clear hK K)
                    refine wpQE_nil ?_
                    refine wpE_seg 16 3 (fuel := 3) (by as_aux_lemma => kernel_rfl) (fun d _ _ _ _ h => by cases d <;> exact h) (by as_aux_lemma => kernel_rfl) (by as_aux_lemma => kernel_rfl) ?_
                    simp only [List.drop_succ_cons, List.drop_zero, List.take_succ_cons, List.take_zero]
                    iterate 3 (refine wpQE_step (fun K hK => ?_); go_simp; refine hK _ ?_; clear hK K)
                    refine wpQE_nil ?_
                    clear hcv
                    refine wpE_step 19 (fuel := 2) rfl (by as_aux_lemma => kernel_rfl) (fun l3 K hK => ?_)
                    go_simp
                    go_at_call 14
                    refine (hA.out l3.w (hm11.out.below l3.hb)).mono ?_
                    rintro e w13 ⟨rfl, hb13⟩
                    refine hK _ _ hb13 ?_
                    clear hK K
                    have hB13 := hB11.out.trans ((l3.hb.trans (hb13.mono l3.hb.size)).mono hB11.out.size)
                    clear hb13
                    replace hB13 := hide hB13
                    refine wpE_seg 20 2 (fuel := 0) (by as_aux_lemma => kernel_rfl) (fun d _ _ _ _ h => by cases d <;> exact h) (by as_aux_lemma => kernel_rfl) (by as_aux_lemma => kernel_rfl) ?_
                    simp only [List.drop_succ_cons, List.drop_zero, List.take_succ_cons, List.take_zero]
                    iterate 2 (refine wpQE_step (fun K hK => ?_); go_simp; refine hK _ ?_; clear hK K)
                    refine wpQE_nil ?_
                    refine wpE_done (by as_aux_lemma => kernel_rfl) (fun w14 hb14 => ?_) 0
                    have hB14 := hB13.out.trans (hb14.mono hB13.out.size)
                    replace hB14 := hide hB14
                    clear hb14
                    go_wp2_with fail
                    go_ret
                    exact ⟨rfl, hB14.out⟩
                  · go_upto_region 23 with fail
                    apply wp_region_lit
                    iterate 1 (refine wpList_plain rfl fun K hK => ?_; go_simp; refine hK _ _ ?_; clear hK K)
                    refine wpList_plain rfl fun K hK => ?_
                    go_simp
                    refine (hO'.out).mono ?_
                    rintro e w9 ⟨rfl, hb9⟩
                    replace hB := hide (hB.out.trans (hb9.mono hB.out.size))
                    replace hm1 := hide (hm1.out.below hb9)
                    replace hxb := hide (hxb.out.on hb9)
                    clear hb9
                    clear hO'
                    go_simp
                    refine hK _ _ ?_
                    clear hK K
                    iterate 3 (refine wpList_plain rfl fun K hK => ?_; go_simp; refine hK _ _ ?_; clear hK K)
                    refine wpl_new rfl rfl 24 _ (alloc_adr _ rfl) 14 rfl (.tmp 108) rfl _ (fun _ => rfl) (fun _ => rfl) rfl (by kernel_rfl) (adr_one true (zh : Int) (zl : Int)) ?_
                    intro w10 hgz hb10 hz10
                    replace hB := hide (hB.out.trans (hb10.mono hB.out.size))
                    replace hm1 := hide (hm1.out.below hb10)
                    replace hxb := hide (hxb.out.on hb10)
                    clear hb10
                    iterate 1 (refine wpList_plain rfl fun K hK => ?_; go_simp; refine hK _ _ ?_; clear hK K)
                    refine wpList_nil ?_
                    go_simp
                    have hcz := fun l : Later w10 => blk_cell (blk_on l.hb hgz)
                    have hcv : ∀ l : Later w10, (convert 38 9 (.slice A' 16 c')).run Tryd.prog l.w = .ok (.string (str ys)) l.w := fun l => IsB.str (IsB.on hxb.out l.hb) c'
                    have hcl := And.left hxb.out
                    replace hgz := hide hgz
                    replace hcl := hide hcl
                    go_upto_region 26 with fail
                    refine wp_region_L (by as_aux_lemma => kernel_rfl) ?_
                    refine wpE_seg 0 12 (fuel := 10) (by as_aux_lemma => kernel_rfl) (fun d _ _ _ _ h => by cases d <;> exact h) (by as_aux_lemma => kernel_rfl) (by as_aux_lemma => kernel_rfl) ?_
                    simp only [List.drop_zero, List.take_succ_cons, List.take_zero]
                    iterate 12 (refine wpQE_step (fun K hK => ?_); go_simp; refine hK _ ?_; clear hK K)
                    refine wpQE_nil ?_
                    refine wpE_seg 14 2 (fuel := 8) (by as_aux_lemma => kernel_rfl) (fun d _ _ _ _ h => by cases d <;> exact h) (by as_aux_lemma => kernel_rfl) (by as_aux_lemma => kernel_rfl) ?_
                    simp only [List.drop_succ_cons, List.drop_zero, List.take_succ_cons, List.take_zero]
                    iterate 2 (refine wpQE_step (fun K hK => ?_); go_simp; refine hK _ ?_; clear hK K)
                    refine wpQE_nil ?_
                    clear hcz hcv
                    refine wpE_step 12 (fuel := 7) rfl (by as_aux_lemma => kernel_rfl) (fun l K hK => ?_)
                    go_simp
                    go_at_call 21
                    refine (hBz.out l.w).mono ?_
                    rintro e w11 ⟨vz, rfl, hoz, hb11⟩
                    obtain ⟨A3, c3, rfl, hc3, hcm3, hxz⟩ := hoz.form
                    rw [hcl.out] at hxz ⊢
                    refine hK _ _ hb11 ?_
                    clear hK K hoz
                    have hcv : ∀ l2 : Later w11, (convert 38 9 (.slice A3 16 c3)).run Tryd.prog l2.w = .ok (.string (str ys)) l2.w := fun l2 => IsB.str (IsB.on hxz l2.hb) c3
                    have hm11 := (hm1.out.below l.hb).below hb11
                    have hB11 := hB.out.trans ((l.hb.trans (hb11.mono l.hb.size)).mono hB.out.size)
                    clear hb11 hxz
                    replace hB11 := hide hB11
                    replace hm11 := hide hm11
                    refine wpE_seg 13 1 (fuel := 6) (by as_aux_lemma => kernel_rfl) (fun d _ _ _ _ h => by cases d <;> exact h) (by as_aux_lemma => kernel_rfl) (by as_aux_lemma => kernel_rfl) ?_
                    simp only [List.drop_succ_cons, List.drop_zero, List.take_succ_cons, List.take_zero]
                    iterate 1 (refine wpQE_step (fun K hK => ?_); go_simp; refine hK _ ?_; clear hK K)
                    refine wpQE_nil ?_
                    refine wpE_seg 16 3 (fuel := 3) (by as_aux_lemma => kernel_rfl) (fun d _ _ _ _ h => by cases d <;> exact h) (by as_aux_lemma => kernel_rfl) (by as_aux_lemma => kernel_rfl) ?_
                    simp only [List.drop_succ_cons, List.drop_zero, List.take_succ_cons, List.take_zero]
                    iterate 3 (refine wpQE_step (fun K hK => ?_); go_simp; refine hK _ ?_; clear hK K)
                    refine wpQE_nil ?_
                    clear hcv
                    refine wpE_step 19 (fuel := 2) rfl (by as_aux_lemma => kernel_rfl) (fun l3 K hK => ?_)
                    go_simp
                    go_at_call 14
                    refine (hA.out l3.w (hm11.out.below l3.hb)).mono ?_
                    rintro e w13 ⟨rfl, hb13⟩
                    refine hK _ _ hb13 ?_
                    clear hK K
                    have hB13 := hB11.out.trans ((l3.hb.trans (hb13.mono l3.hb.size)).mono hB11.out.size)
                    clear hb13
                    replace hB13 := hide hB13
                    refine wpE_seg 20 2 (fuel := 0) (by as_aux_lemma => kernel_rfl) (fun d _ _ _ _ h => by cases d <;> exact h) (by as_aux_lemma => kernel_rfl) (by as_aux_lemma => kernel_rfl) ?_
                    simp only [List.drop_succ_cons, List.drop_zero, List.take_succ_cons, List.take_zero]
                    iterate 2 (refine wpQE_step (fun K hK => ?_); go_simp; refine hK _ ?_; clear hK K)
                    refine wpQE_nil ?_
                    refine wpE_done (by as_aux_lemma => kernel_rfl) (fun w14 hb14 => ?_) 0
                    have hB14 := hB13.out.trans (hb14.mono hB13.out.size)
                    replace hB14 := hide hB14
                    clear hb14
                    go_wp2_with fail
                    go_ret
                    exact ⟨rfl, hB14.out⟩
theorem bytes_row (v6 : Bool) (hi lo : Int) (A : Option Addr) (n c : Nat) (xs : List UInt8) (i : Int) (w : World) (h1 : (Lit.int .u64 hi).wf = true) (h2 : (Lit.int .u64 lo).wf = true) (hx : IsB w w.heap.size A n xs) (hnc : n ≤ c) (hcm : c ≤ maxLen) (h3 : (Lit.int .i64 i).wf = true) (hm : MaxAt w) :
    Calls Tryd.prog 6 #[.agg #[.bool v6, .int .u64 hi, .int .u64 lo], .slice A n c, .int .i64 i] w fun e w' => e = .returned (.bool true) ∧ Below w.heap.size w w' := by
  obtain ⟨hi, rfl, h1'⟩ := u64_nat h1
  obtain ⟨lo, rfl, h2'⟩ := u64_nat h2
  have h4 := i64_wf h3
  exact bytes_walk v6 hi lo h1' h2' A n c xs i h4.1 h4.2 w hx hnc hcm hm
end Addr05
end Go.Proofs.YtccmbnaakdffaaaDoor
