/- The law's text of a configuration. Conditions: a configuration that may be; fewer than 100 rows. -/
import Derived.Test.YtcpokkkdmenmgaaDoorQConfRemarks12
import Derived.Test.YtcpokkkdmenmgaaDoorQConfRemarks18
import Derived.Test.YtcpokkkdmenmgaaDoorQConfRemarks4
import Derived.Test.YtcpokkkdmenmgaaDoorQConfRemarks5
import Derived.Test.YtcpokkkdmenmgaaDoorQConfRemarks10
namespace Go.Proofs.YtcpokkkdmenmgaaDoor
open Go.RowKit Go.ChangeShapes Go.WideShapes Go.ChangeAt Go.Deep
namespace Conf18
open Addr05
theorem tailT_app : ∀ a b : List (List UInt8), tailT (a ++ b) = tailT a ++ tailT b
  | [], b => rfl
  | y :: r, b => by
    rw [List.cons_append, tailT, tailT, tailT_app r b]
    simp
theorem textR_app (a b : List (List (List UInt8))) : textR (a ++ b) = textR a ++ textR b := List.flatMap_append
theorem textR_one (r : List (List UInt8)) : textR [r] = rowT r ++ [10] := by simp [textR]
/-- The kinds' words, where they lie. -/
def kindsA : Array Value := #[.string (str []), .string (str wLevel), .string (str wZone), .string (str wRack), .string (str wHost)]
theorem kinds_at {w : World} {g : Nat} {T : TypeId} (h : w.heap[g]? = some (.cells kindsA T (0, 0))) (k : Nat) (hk : k ≤ 4) : w.cell? ⟨g, k, none⟩ = some (.string (str (kindW (k : Int)))) := by
  rw [blk_cell h k]
  have : k = 0 ∨ k = 1 ∨ k = 2 ∨ k = 3 ∨ k = 4 := by omega
  rcases this with rfl | rfl | rfl | rfl | rfl <;> rfl
theorem node_facts {ns : List Nd} (ht : Tree16.treeF ns = none) {i : Nat} {n : Nd} (hn : ns[i]? = some n) : 1 ≤ n.kind ∧ n.kind ≤ 4 ∧ n.name.length ≤ 32 ∧ 0 ≤ n.weight ∧ n.weight ≤ 65535 ∧ (1 < n.kind → ∃ (j : Nat) (m : Nd), n.above = (j : Int) ∧ j < i ∧ ns[j]? = some m ∧ m.name.length ≤ 32 ∧ ns.getD n.above.toNat n = m) := by
  have hnl : ∀ {j : Nat} {m : Nd}, ns[j]? = some m → m.name.length ≤ 32 := by
    intro j m hm
    have p1 := (right_all (tree_right ht hm)).1
    have : Tree16.nameF m.name = true := by
      rcases e : Tree16.nameF m.name with _ | _
      · exact absurd (.inl e) p1
      · rfl
    unfold Tree16.nameF at this
    rw [Bool.and_eq_true] at this
    have := of_decide_eq_true this.1
    omega
  obtain ⟨p1, p2, p3, -, -⟩ := right_all (tree_right ht hn)
  have hi := (List.getElem?_eq_some_iff.1 hn).1
  have hli : (ns.take i).length = i := by rw [List.length_take]; omega
  rw [hli] at p3
  refine ⟨by omega, by omega, hnl hn, by omega, by omega, fun hk => ?_⟩
  obtain ⟨j, hj⟩ : ∃ j : Nat, n.above = (j : Int) := ⟨n.above.toNat, by omega⟩
  have hm : ns[j]? = some ns[j] := List.getElem?_eq_getElem (by omega)
  refine ⟨j, ns[j], hj, by omega, hm, hnl hm, ?_⟩
  rw [hj, Int.toNat_natCast, List.getD_eq_getElem?_getD, hm]
  rfl
theorem rowT_node (ns : List Nd) (n : Nd) : rowT (nodeR ns n) = kindW n.kind ++ [32] ++ n.name ++ tailT (if 1 < n.kind then [(ns.getD n.above.toNat n).name] else []) ++ tailT (if n.kind = 4 ∨ 0 < n.weight then [dgF n.weight] else []) ++ tailT (if n.kind = 4 then [textA n.a] else []) := by
  unfold nodeR
  obtain ⟨A, hA⟩ : ∃ x, (if 1 < n.kind then [(ns.getD n.above.toNat n).name] else []) = x := ⟨_, rfl⟩
  obtain ⟨B, hB⟩ : ∃ x, (if n.kind = 4 ∨ 0 < n.weight then [dgF n.weight] else []) = x := ⟨_, rfl⟩
  obtain ⟨C, hC⟩ : ∃ x, (if n.kind = 4 then [textA n.a] else []) = x := ⟨_, rfl⟩
  rw [hA, hB, hC, List.append_assoc, List.append_assoc]
  show kindW n.kind ++ tailT (n.name :: (A ++ (B ++ C))) = _
  rw [tailT, tailT_app, tailT_app]
  simp
theorem rowT_vip (v : Vp) : rowT (vipR v) = wVip ++ [32] ++ textA v.a ++ [32] ++ (if v.proto = 17 then wUdp else wTcp) ++ [32] ++ dgF v.port ++ tailT (if 1 < v.copies then [wCopies, dgF v.copies] else []) ++ tailT (if v.nat = true then [wNat] else []) := by
  unfold vipR
  obtain ⟨A, hA⟩ : ∃ x, (if 1 < v.copies then [wCopies, dgF v.copies] else []) = x := ⟨_, rfl⟩
  obtain ⟨B, hB⟩ : ∃ x, (if v.nat = true then [wNat] else []) = x := ⟨_, rfl⟩
  rw [hA, hB, List.append_assoc]
  show wVip ++ tailT (textA v.a :: (if v.proto = 17 then wUdp else wTcp) :: dgF v.port :: (A ++ B)) = _
  rw [tailT, tailT, tailT, tailT_app]
  simp
theorem rowT_view (v : Vw) : rowT (viewR v) = wView ++ [32] ++ textP v.a v.bits.toNat ++ [32] ++ dgF v.level := by
  simp [viewR, rowT, tailT]
theorem textP_len60 (a : Adr) (n : Nat) : (textP a n).length ≤ 60 := by
  have h1 := textA_len a
  have h2 := digL_len 10 n
  unfold textP
  rw [List.length_append, List.length_cons]
  omega
theorem kindW_len (k : Int) : (kindW k).length ≤ 6 := by
  unfold kindW
  repeat' split
  all_goals decide
set_option maxRecDepth 20000 in
set_option maxHeartbeats 16000000 in
theorem text_any2 (c : Cfg) (M : Nat) (hg : c.good M) (hmay : mayP c) (w : World) (A1 A2 A3 : Option Addr) (k1 k2 k3 : Nat) (hR : CfgR w w.heap.size c A1 A2 A3 k1 k2 k3) (h1 : c.nodes.length ≤ 60) (h2 : c.vips.length ≤ 20) (h3 : c.views.length ≤ 20) :
    Calls Tryd.prog 10 #[.agg (cfC c (.slice A1 c.nodes.length k1) (.slice A2 c.vips.length k2) (.slice A3 c.views.length k3))] w fun e w' => e = .returned (.string (str (textR (rowsF c)))) ∧ Below w.heap.size w w' := by
  have hvp := hR.vips
  have hvw := hR.views
  have hnd := hR.nodes
  clear hR
  obtain ⟨R, hRR⟩ : ∃ R, textR (rowsF c) = R := ⟨_, rfl⟩
  rw [hRR]
  unfold rowsF at hRR
  obtain ⟨hf1, hf2⟩ := hmay.factor
  have hdm := hmay.dom
  obtain ⟨f, hf⟩ : ∃ f : Nat, c.factor = (f : Int) := ⟨c.factor.toNat, by omega⟩
  obtain ⟨d, hd⟩ : ∃ d : Nat, c.domain = (d : Int) := ⟨c.domain.toNat, by omega⟩
  have hd4 : d ≤ 4 := by omega
  have hd0 : (d : Int) < 5 := by omega
  unfold cfC
  rw [hf, hd]
  obtain ⟨z, hz⟩ : ∃ z, w.heap.size = z := ⟨_, rfl⟩
  obtain ⟨w1, hw1⟩ : ∃ w1, w.alloc (.cells #[.slice A1 c.nodes.length k1, .slice A2 c.vips.length k2, .slice A3 c.views.length k3, .int .i64 (f : Int), .int .i64 (d : Int), .bool c.s0.v6, .int .u64 (c.s0.hi : Int), .int .u64 (c.s0.lo : Int), .bool c.s1.v6, .int .u64 (c.s1.hi : Int), .int .u64 (c.s1.lo : Int)] 30) = w1 := ⟨_, rfl⟩
  have hb1 : Below w.heap.size w w1 := hw1 ▸ (Below.refl _ _).alloc (Nat.le_refl _) _
  have hc1 : w1.heap[w.heap.size]? = some (.cells #[.slice A1 c.nodes.length k1, .slice A2 c.vips.length k2, .slice A3 c.views.length k3, .int .i64 (f : Int), .int .i64 (d : Int), .bool c.s0.v6, .int .u64 (c.s0.hi : Int), .int .u64 (c.s0.lo : Int), .bool c.s1.v6, .int .u64 (c.s1.hi : Int), .int .u64 (c.s1.lo : Int)] 30 (0, 0)) := hw1 ▸ blk_new _ _ _
  have hz1 : z < w1.heap.size := by rw [← hz]; exact lt_of_blk hc1
  rw [hz] at hb1 hc1 hvp hvw hnd
  obtain ⟨w2, hw2⟩ : ∃ w2, w1.alloc (.cells #[.string ⟨#[]⟩, .string ⟨#[108, 101, 118, 101, 108]⟩, .string ⟨#[122, 111, 110, 101]⟩, .string ⟨#[114, 97, 99, 107]⟩, .string ⟨#[104, 111, 115, 116]⟩] 9) = w2 := ⟨_, rfl⟩
  obtain ⟨y, hy⟩ : ∃ y, w1.heap.size = y := ⟨_, rfl⟩
  have hb2 : Below y w1 w2 := by
    rw [← hy]
    exact hw2 ▸ (Below.refl _ _).alloc (Nat.le_refl _) _
  have hk2 : w2.heap[y]? = some (.cells kindsA 9 (0, 0)) := by
    rw [← hy]
    exact hw2 ▸ blk_new _ _ _
  rw [hy] at hz1
  have hc2 := blk_below hb2 hz1 hc1
  have hbw := hb1.trans (hb2.mono (Nat.le_of_lt hz1))
  have hz2 := lt_of_blk hk2
  clear hb1 hb2 hc1
  replace hc2 := hide hc2
  replace hk2 := hide hk2
  replace hbw := hide hbw
  replace hvp := hide hvp
  replace hvw := hide hvw
  replace hnd := hide hnd
  replace hRR := hide hRR
  replace hg := hide hg
  replace hmay := hide hmay
  go_enter Tryd.func10, Tryd.ntmps10
  rw [hz]
  go_upto_region 2 with fail

  clear hw1 hw2
  have q1 := fun l : Later w2 => ldig_any f (by omega) l.w
  have lD := digL_len 10 f
  obtain ⟨D, hD⟩ : ∃ x, digL 10 f = x := ⟨_, rfl⟩
  rw [hD] at q1 lD
  have lK := kindW_len (d : Int)
  have hkd := fun l : Later w2 => kinds_at (blk_below l.hb hz2 hk2.out) d hd4
  obtain ⟨K, hK⟩ : ∃ x, kindW (d : Int) = x := ⟨_, rfl⟩
  rw [hK] at hkd lK
  have la := fun l : Later w2 => blk_cell (blk_below l.hb (Nat.lt_trans hz1 hz2) hc2.out)
  obtain ⟨Ta1, eTa1⟩ : ∃ x, ([102, 97, 99, 116, 111, 114, 32] : List UInt8) ++ D = x := ⟨_, rfl⟩
  have cTa1 : ByteArray.mk #[102, 97, 99, 116, 111, 114, 32] ++ str D = str Ta1 := by rw [← eTa1]; exact str_append _ _
  have lTa1 : Ta1.length = 7 + D.length := by rw [← eTa1, List.length_append]; try rfl
  have zTa1 : ¬ 9223372036854775807 < 7 + (str D).size := by simp only [size_str]; omega
  obtain ⟨Ta2, eTa2⟩ : ∃ x, Ta1 ++ ([10, 100, 111, 109, 97, 105, 110, 32] : List UInt8) = x := ⟨_, rfl⟩
  have cTa2 : str Ta1 ++ ByteArray.mk #[10, 100, 111, 109, 97, 105, 110, 32] = str Ta2 := by rw [← eTa2]; exact str_append _ _
  have lTa2 : Ta2.length = Ta1.length + 8 := by rw [← eTa2, List.length_append]; try rfl
  have zTa2 : ¬ 9223372036854775807 < (str Ta1).size + 8 := by simp only [size_str]; omega
  obtain ⟨Ta3, eTa3⟩ : ∃ x, Ta2 ++ K = x := ⟨_, rfl⟩
  have cTa3 : str Ta2 ++ str K = str Ta3 := by rw [← eTa3]; exact str_append _ _
  have lTa3 : Ta3.length = Ta2.length + K.length := by rw [← eTa3, List.length_append]; try rfl
  have zTa3 : ¬ 9223372036854775807 < (str Ta2).size + (str K).size := by simp only [size_str]; omega
  obtain ⟨Ta4, eTa4⟩ : ∃ x, Ta3 ++ ([10] : List UInt8) = x := ⟨_, rfl⟩
  have cTa4 : str Ta3 ++ ByteArray.mk #[10] = str Ta4 := by rw [← eTa4]; exact str_append _ _
  have lTa4 : Ta4.length = Ta3.length + 1 := by rw [← eTa4, List.length_append]; try rfl
  have zTa4 : ¬ 9223372036854775807 < (str Ta3).size + 1 := by simp only [size_str]; omega
  obtain ⟨S0, hS0⟩ : ∃ x, Ta4 = x := ⟨_, rfl⟩
  have hSR : S0 = textR [[wFactor, dgF c.factor], [wDomain, kindW c.domain]] := by
    rw [← hS0, ← eTa4, ← eTa3, ← eTa2, ← eTa1, hf, hd, hK]
    unfold dgF
    rw [Int.toNat_natCast, hD]
    simp [textR, rowT, tailT, wFactor, wDomain]
  have hSl : S0.length ≤ 100 := by rw [← hS0]; omega
  rw [hS0] at cTa4
  replace q1 := hide q1
  replace hSR := hide hSR
  replace hSl := hide hSl
  replace hD := hide hD
  replace hK := hide hK
  refine wp_region_L (by as_aux_lemma => kernel_rfl) ?_
  refine wpE_seg 0 13 (fuel := 0) (by as_aux_lemma => kernel_rfl) (fun d _ _ _ _ h => by cases d <;> exact h) (by as_aux_lemma => kernel_rfl) (by as_aux_lemma => kernel_rfl) ?_
  simp only [List.drop_zero, List.take_succ_cons, List.take_zero]
  iterate 2 (refine wpQE_step (fun K hK => ?_); go_simp; refine hK _ ?_; clear hK K)
  (refine wpQE_step (fun K hK => ?_); go_simp; apply Exists.intro; refine ⟨fun l => ?_, hK _ ?_⟩; (go_at_call 30; refine (q1.out l).mono ?_; rintro e w' ⟨rfl, hb⟩; exact ⟨rfl, hb⟩); clear hK K)
  iterate 10 (refine wpQE_step (fun K hK => ?_); go_simp; refine hK _ ?_; clear hK K)
  refine wpQE_nil ?_
  refine wpE_done (by as_aux_lemma => kernel_rfl) (fun w3 hb3 => ?_) 0

  replace hb3 : Below w2.heap.size w2 w3 := hb3
  have hc3 := blk_below hb3 (Nat.lt_trans hz1 hz2) hc2.out
  have hk3 := blk_below hb3 hz2 hk2.out
  have hz3 := Nat.lt_of_lt_of_le hz2 hb3.size
  have hbw3 := hbw.out.trans (hb3.mono (Nat.le_of_lt (Nat.lt_trans hz1 hz2)))
  have hzz : z < w3.heap.size := Nat.lt_trans hz1 hz3
  clear q1 lD hkd lK la hb3 hc2 hk2 hbw hD hK hS0 hdm hd0
  clear eTa1 eTa2 eTa3 eTa4 cTa1 cTa2 cTa3 cTa4 lTa1 lTa2 lTa3 lTa4 zTa1 zTa2 zTa3 zTa4
  replace hc3 := hide hc3
  replace hk3 := hide hk3
  replace hbw3 := hide hbw3
  go_upto_block 0 with fail
  go_cut [4] (fun sv wx => ∃ S, sv = .string (str S) ∧ S = textR (headR c) ∧ S.length ≤ 220 ∧ Below w3.heap.size w3 wx)
  case first =>
    clear hvp hvw hnd hRR
    go_wp2_with fail
    go_loopw [4, 5] (fun sv iv wr => ∃ (i : Nat) (S : List UInt8), i ≤ 2 ∧ iv = .int .i64 (i : Int) ∧ sv = .string (str S) ∧ S = textR ([[wFactor, dgF c.factor], [wDomain, kindW c.domain]] ++ (if 0 < i then selfR c.s0 else []) ++ (if 1 < i then selfR c.s1 else [])) ∧ S.length ≤ 100 + 60 * i ∧ Below w3.heap.size w3 wr) (fun _ iv _ => 2 - (intOf iv).toNat)
    case atStart => exact ⟨0, S0, by omega, rfl, rfl, by rw [hSR.out]; rfl, hSl.out, Below.refl _ _⟩
    case round =>
      obtain ⟨i, S, hi, rfl, rfl, hS, hSl2, hbr⟩ := hrel
      have cr := fun i => blk_cell (blk_below hbr hzz hc3.out) i
      have hzr := hbr.size
      clear hSR hSl
      have hi3 : i = 0 ∨ i = 1 ∨ i = 2 := by omega
      rcases hi3 with rfl | rfl | rfl
      · have hok : c.s0.ok := hg.out.s0
        have qT := fun w => text_any c.s0.v6 c.s0.hi c.s0.lo hok.1 hok.2 w
        have lA := textA_len c.s0
        have hAA : textL c.s0.v6 c.s0.hi c.s0.lo = textA c.s0 := rfl
        obtain ⟨TA, hTA⟩ : ∃ x, textA c.s0 = x := ⟨_, rfl⟩
        rw [hAA, hTA] at qT
        rw [hTA] at lA
        clear hAA
        have hS2 := hS
        rw [if_neg (by omega), if_neg (by omega), List.append_nil, List.append_nil] at hS2
        clear hS
        replace hS2 := hide hS2
        replace hok := hide hok
        replace hbr := hide hbr
        replace qT := hide qT
        by_cases hzA : c.s0 = zA
        · have tz : decide (c.s0 = zA) = true := decide_eq_true hzA
          replace tz := hide tz
          replace hzA := hide hzA
          go_upto_region 6 with fail
          apply wp_region_lit
          iterate 5 (refine wpList_plain rfl fun K hK => ?_; go_simp; refine hK _ _ ?_; clear hK K)
          refine wpl_neA rfl (.tmp 32) (.tmp 33) rfl c.s0 zA rfl rfl ?_
          rw [tz.out]
          refine wpList_nil ?_
          go_simp
          go_wp2_with fail
          exact ⟨⟨1, S, by omega, rfl, rfl, by rw [hS2.out]; unfold selfR; rw [hzA.out]; simp, by omega, hbr.out⟩, by simp [intOf]⟩
        · have tz : decide (c.s0 = zA) = false := decide_eq_false hzA
          obtain ⟨Tb1, eTb1⟩ : ∃ x, S ++ ([115, 101, 108, 102, 32] : List UInt8) = x := ⟨_, rfl⟩
          have cTb1 : str S ++ ByteArray.mk #[115, 101, 108, 102, 32] = str Tb1 := by rw [← eTb1]; exact str_append _ _
          have lTb1 : Tb1.length = S.length + 5 := by rw [← eTb1, List.length_append]; try rfl
          have zTb1 : ¬ 9223372036854775807 < (str S).size + 5 := by simp only [size_str]; omega
          obtain ⟨Tb2, eTb2⟩ : ∃ x, Tb1 ++ TA = x := ⟨_, rfl⟩
          have cTb2 : str Tb1 ++ str TA = str Tb2 := by rw [← eTb2]; exact str_append _ _
          have lTb2 : Tb2.length = Tb1.length + TA.length := by rw [← eTb2, List.length_append]; try rfl
          have zTb2 : ¬ 9223372036854775807 < (str Tb1).size + (str TA).size := by simp only [size_str]; omega
          obtain ⟨Tb3, eTb3⟩ : ∃ x, Tb2 ++ ([10] : List UInt8) = x := ⟨_, rfl⟩
          have cTb3 : str Tb2 ++ ByteArray.mk #[10] = str Tb3 := by rw [← eTb3]; exact str_append _ _
          have lTb3 : Tb3.length = Tb2.length + 1 := by rw [← eTb3, List.length_append]; try rfl
          have zTb3 : ¬ 9223372036854775807 < (str Tb2).size + 1 := by simp only [size_str]; omega
          have hfin : Tb3 = S ++ (rowT [wSelf, TA] ++ [10]) := by
            rw [← eTb3, ← eTb2, ← eTb1]
            simp [rowT, tailT, wSelf]
          have hTl : Tb3.length ≤ S.length + 60 := by omega
          clear lTb1 lTb2 lTb3 eTb1 eTb2 eTb3
          replace hfin := hide hfin
          replace hTl := hide hTl
          replace tz := hide tz
          replace hzA := hide hzA
          go_upto_region 6 with fail
          apply wp_region_lit
          iterate 5 (refine wpList_plain rfl fun K hK => ?_; go_simp; refine hK _ _ ?_; clear hK K)
          refine wpl_neA rfl (.tmp 32) (.tmp 33) rfl c.s0 zA rfl rfl ?_
          rw [tz.out]
          refine wpList_nil ?_
          go_simp
          go_wp2_with fail
          refine (qT.out wr).mono ?_
          rintro r w5 ⟨rfl, hb5⟩
          clear cr
          replace hb5 := hide hb5
          go_wp2_with fail
          exact ⟨⟨1, Tb3, by omega, rfl, rfl, by rw [hfin.out, hS2.out]; unfold selfR; rw [if_neg hzA.out, hTA]; simp [textR], by have := hTl.out; omega, hbr.out.trans (hb5.out.mono hzr)⟩, by simp [intOf]⟩
      · have hok : c.s1.ok := hg.out.s1
        have qT := fun w => text_any c.s1.v6 c.s1.hi c.s1.lo hok.1 hok.2 w
        have lA := textA_len c.s1
        have hAA : textL c.s1.v6 c.s1.hi c.s1.lo = textA c.s1 := rfl
        obtain ⟨TA, hTA⟩ : ∃ x, textA c.s1 = x := ⟨_, rfl⟩
        rw [hAA, hTA] at qT
        rw [hTA] at lA
        clear hAA
        have hS2 := hS
        rw [if_pos (by omega), if_neg (by omega), List.append_nil] at hS2
        clear hS
        replace hS2 := hide hS2
        replace hok := hide hok
        replace hbr := hide hbr
        replace qT := hide qT
        by_cases hzA : c.s1 = zA
        · have tz : decide (c.s1 = zA) = true := decide_eq_true hzA
          replace tz := hide tz
          replace hzA := hide hzA
          go_upto_region 6 with fail
          apply wp_region_lit
          iterate 5 (refine wpList_plain rfl fun K hK => ?_; go_simp; refine hK _ _ ?_; clear hK K)
          refine wpl_neA rfl (.tmp 32) (.tmp 33) rfl c.s1 zA rfl rfl ?_
          rw [tz.out]
          refine wpList_nil ?_
          go_simp
          go_wp2_with fail
          exact ⟨⟨2, S, by omega, rfl, rfl, by rw [hS2.out]; unfold selfR; rw [hzA.out]; simp, by omega, hbr.out⟩, by simp [intOf]⟩
        · have tz : decide (c.s1 = zA) = false := decide_eq_false hzA
          obtain ⟨Tb1, eTb1⟩ : ∃ x, S ++ ([115, 101, 108, 102, 32] : List UInt8) = x := ⟨_, rfl⟩
          have cTb1 : str S ++ ByteArray.mk #[115, 101, 108, 102, 32] = str Tb1 := by rw [← eTb1]; exact str_append _ _
          have lTb1 : Tb1.length = S.length + 5 := by rw [← eTb1, List.length_append]; try rfl
          have zTb1 : ¬ 9223372036854775807 < (str S).size + 5 := by simp only [size_str]; omega
          obtain ⟨Tb2, eTb2⟩ : ∃ x, Tb1 ++ TA = x := ⟨_, rfl⟩
          have cTb2 : str Tb1 ++ str TA = str Tb2 := by rw [← eTb2]; exact str_append _ _
          have lTb2 : Tb2.length = Tb1.length + TA.length := by rw [← eTb2, List.length_append]; try rfl
          have zTb2 : ¬ 9223372036854775807 < (str Tb1).size + (str TA).size := by simp only [size_str]; omega
          obtain ⟨Tb3, eTb3⟩ : ∃ x, Tb2 ++ ([10] : List UInt8) = x := ⟨_, rfl⟩
          have cTb3 : str Tb2 ++ ByteArray.mk #[10] = str Tb3 := by rw [← eTb3]; exact str_append _ _
          have lTb3 : Tb3.length = Tb2.length + 1 := by rw [← eTb3, List.length_append]; try rfl
          have zTb3 : ¬ 9223372036854775807 < (str Tb2).size + 1 := by simp only [size_str]; omega
          have hfin : Tb3 = S ++ (rowT [wSelf, TA] ++ [10]) := by
            rw [← eTb3, ← eTb2, ← eTb1]
            simp [rowT, tailT, wSelf]
          have hTl : Tb3.length ≤ S.length + 60 := by omega
          clear lTb1 lTb2 lTb3 eTb1 eTb2 eTb3
          replace hfin := hide hfin
          replace hTl := hide hTl
          replace tz := hide tz
          replace hzA := hide hzA
          go_upto_region 6 with fail
          apply wp_region_lit
          iterate 5 (refine wpList_plain rfl fun K hK => ?_; go_simp; refine hK _ _ ?_; clear hK K)
          refine wpl_neA rfl (.tmp 32) (.tmp 33) rfl c.s1 zA rfl rfl ?_
          rw [tz.out]
          refine wpList_nil ?_
          go_simp
          go_wp2_with fail
          refine (qT.out wr).mono ?_
          rintro r w5 ⟨rfl, hb5⟩
          clear cr
          replace hb5 := hide hb5
          go_wp2_with fail
          exact ⟨⟨2, Tb3, by omega, rfl, rfl, by rw [hfin.out, hS2.out]; unfold selfR; rw [if_neg hzA.out, hTA]; simp [textR], by have := hTl.out; omega, hbr.out.trans (hb5.out.mono hzr)⟩, by simp [intOf]⟩
      · have hS2 := hS
        rw [if_pos (by omega), if_pos (by omega)] at hS2
        clear hS cr
        replace hS2 := hide hS2
        replace hbr := hide hbr
        go_wp2_with fail
        go_meet
        exact ⟨S, rfl, hS2.out, by omega, hbr.out⟩
  case rest =>
  obtain ⟨S1, rfl, hS1, hSl1, hb4⟩ := hcut
  clear hSR hSl
  have hbw4 := hbw3.out.trans (hb4.mono (Nat.le_of_lt hzz))
  have hc4 := blk_below hb4 hzz hc3.out
  have hk4 := blk_below hb4 hz3 hk3.out
  have hz4 : y < wc.heap.size := Nat.lt_of_lt_of_le hz3 hb4.size
  have hnd4 := hnd.out.below hbw4
  have hvp4 := hvp.out.below hbw4
  have hvw4 := hvw.out.below hbw4
  clear hbw3 hc3 hk3 hz3 hzz hnd hvp hvw hb4
  replace hbw4 := hide hbw4
  replace hc4 := hide hc4
  replace hk4 := hide hk4
  replace hnd4 := hide hnd4
  replace hvp4 := hide hvp4
  replace hvw4 := hide hvw4
  replace hS1 := hide hS1
  go_upto_block 2 with fail
  go_cut [4] (fun sv wx => ∃ S, sv = .string (str S) ∧ S = textR (headR c ++ c.nodes.map (nodeR c.nodes)) ∧ S.length ≤ 20000 ∧ Below wc.heap.size wc wx)
  case first =>
    clear hvp4 hvw4 hRR
    go_wp2_with fail
    go_loopw [4, 6, 7] (fun sv iv _ wr => ∃ (i : Nat) (S : List UInt8), i ≤ c.nodes.length ∧ iv = .int .i64 (i : Int) ∧ sv = .string (str S) ∧ S = textR (headR c ++ (c.nodes.take i).map (nodeR c.nodes)) ∧ S.length ≤ 220 + 300 * i ∧ Below wc.heap.size wc wr) (fun _ iv _ _ => c.nodes.length - (intOf iv).toNat)
    case atStart => exact ⟨0, S1, by omega, rfl, rfl, by rw [hS1.out]; simp, by omega, Below.refl _ _⟩
    case round =>
      obtain ⟨i, S, hi, rfl, rfl, hS, hSl2, hbr⟩ := hrel
      have cr := fun i => blk_cell (blk_below hbr (Nat.lt_trans hz1 hz4) hc4.out) i
      have hzr := hbr.size
      clear hS1
      by_cases hin : i < c.nodes.length
      · have hlt : (i : Int) < (c.nodes.length : Int) := by omega
        obtain ⟨pb, off, nd, rfl, hbk, hni, hcell⟩ := IsT.at (f := ndC) (size := 7) (fun _ => rfl) (by decide) (hnd4.out.below (hbr.mono (by omega))) hin
        have hgn := (hg.out.nodes nd (List.mem_of_getElem? hni)).1
        obtain ⟨n1, n2, n3, n4, n5, n6⟩ := node_facts hmay.out.tree hni
        have wi1 : IntKind.i64.wrap ((i : Int) + 1) = ((i + 1 : Nat) : Int) := by rw [wraps62 _ (by omega) (by omega)]; omega
        have hrow := rowT_node c.nodes nd
        have hsn : (c.nodes.take (i + 1)).map (nodeR c.nodes) = (c.nodes.take i).map (nodeR c.nodes) ++ [nodeR c.nodes nd] := by rw [List.take_add_one, hni]; simp
        have up : ∀ j : Nat, j < c.nodes.length → ∃ m, c.nodes[j]? = some m ∧ wr.cell? ⟨pb, off + j * 7, none⟩ = some (.string (str m.name)) := fun j hj => by
          obtain ⟨pb2, off2, m, hp, -, hm, hc⟩ := IsT.at (f := ndC) (size := 7) (fun _ => rfl) (by decide) (hnd4.out.below (hbr.mono (by omega))) hj
          cases hp
          exact ⟨m, hm, hc 0 _ rfl⟩
        obtain ⟨U, hU⟩ : ∃ x, (if 1 < nd.kind then [(c.nodes.getD nd.above.toNat nd).name] else []) = x := ⟨_, rfl⟩
        obtain ⟨V2, hV2⟩ : ∃ x, (if nd.kind = 4 ∨ 0 < nd.weight then [dgF nd.weight] else []) = x := ⟨_, rfl⟩
        obtain ⟨V3, hV3⟩ : ∃ x, (if nd.kind = 4 then [textA nd.a] else []) = x := ⟨_, rfl⟩
        rw [hU, hV2, hV3] at hrow
        obtain ⟨nm, kd, ab, wt, a⟩ := nd
        dsimp only at hgn n1 n2 n3 n4 n5 n6 hrow hU hV2 hV3
        have y0 : wr.cell? ⟨pb, off + i * 7, none⟩ = some (.string (str nm)) := hcell 0 _ rfl
        have y1 : wr.cell? ⟨pb, off + i * 7 + 1, none⟩ = some (.int .i64 kd) := hcell 1 _ rfl
        have y2 : wr.cell? ⟨pb, off + i * 7 + 2, none⟩ = some (.int .i64 ab) := hcell 2 _ rfl
        have y3 : wr.cell? ⟨pb, off + i * 7 + 3, none⟩ = some (.int .i64 wt) := hcell 3 _ rfl
        have y4 : wr.cell? ⟨pb, off + i * 7 + 4, none⟩ = some (.bool a.v6) := hcell 4 _ rfl
        have y5 : wr.cell? ⟨pb, off + i * 7 + 5, none⟩ = some (.int .u64 (a.hi : Int)) := hcell 5 _ rfl
        have y6 : wr.cell? ⟨pb, off + i * 7 + 6, none⟩ = some (.int .u64 (a.lo : Int)) := hcell 6 _ rfl
        obtain ⟨kn, rfl⟩ : ∃ kn : Nat, kd = (kn : Int) := ⟨kd.toNat, by omega⟩
        obtain ⟨wn, rfl⟩ : ∃ wn : Nat, wt = (wn : Int) := ⟨wt.toNat, by omega⟩
        have hkn : kn ≤ 4 := by omega
        have hkn5 : (kn : Int) < 5 := by omega
        have hpb : pb < wr.heap.size := by omega
        clear hcell hni
        have hS3 := hS
        clear hS
        replace hrow := hide hrow
        replace hsn := hide hsn
        replace up := hide up
        replace hgn := hide hgn
        replace hS3 := hide hS3
        replace n6 := hide n6
        replace hU := hide hU
        replace hV2 := hide hV2
        replace hV3 := hide hV3
        replace hbr := hide hbr
        go_upto_region 11 with fail
        apply wp_region_lit
        iterate 5 (refine wpList_plain rfl fun K hK => ?_; go_simp; refine hK _ _ ?_; clear hK K)
        refine wpl_new rfl rfl 72 _ (alloc_nd _ rfl) 7 rfl (.tmp 55) rfl _ (fun _ => rfl) (fun _ => rfl) rfl (by kernel_rfl) (nd_one (str nm) (kn : Int) ab (wn : Int) a.v6 (a.hi : Int) (a.lo : Int)) ?_
        intro w4 hg4 hb4 hz4'
        refine wpList_nil ?_
        go_simp
        clear y0 y1 y2 y3 y4 y5 y6 cr
        have hbr4 := hbr.out.trans (hb4.mono hzr)
        have hk5 := blk_below hbr4 hz4 hk4.out
        have hzy : y < w4.heap.size := by omega
        have lk := fun l : Later w4 => kinds_at (blk_below l.hb hzy hk5) kn hkn
        have lK := kindW_len (kn : Int)
        obtain ⟨K, hK⟩ : ∃ x, kindW (kn : Int) = x := ⟨_, rfl⟩
        rw [hK] at lk lK
        have la := fun l : Later w4 => blk_cell (blk_below l.hb hz4' hg4)
        obtain ⟨Tc1, eTc1⟩ : ∃ x, S ++ K = x := ⟨_, rfl⟩
        have cTc1 : str S ++ str K = str Tc1 := by rw [← eTc1]; exact str_append _ _
        have lTc1 : Tc1.length = S.length + K.length := by rw [← eTc1, List.length_append]; try rfl
        have zTc1 : ¬ 9223372036854775807 < (str S).size + (str K).size := by simp only [size_str]; omega
        obtain ⟨Tc2, eTc2⟩ : ∃ x, Tc1 ++ ([32] : List UInt8) = x := ⟨_, rfl⟩
        have cTc2 : str Tc1 ++ ByteArray.mk #[32] = str Tc2 := by rw [← eTc2]; exact str_append _ _
        have lTc2 : Tc2.length = Tc1.length + 1 := by rw [← eTc2, List.length_append]; try rfl
        have zTc2 : ¬ 9223372036854775807 < (str Tc1).size + 1 := by simp only [size_str]; omega
        obtain ⟨Tc3, eTc3⟩ : ∃ x, Tc2 ++ nm = x := ⟨_, rfl⟩
        have cTc3 : str Tc2 ++ str nm = str Tc3 := by rw [← eTc3]; exact str_append _ _
        have lTc3 : Tc3.length = Tc2.length + nm.length := by rw [← eTc3, List.length_append]; try rfl
        have zTc3 : ¬ 9223372036854775807 < (str Tc2).size + (str nm).size := by simp only [size_str]; omega
        have hT3 : Tc3 = S ++ (kindW (kn : Int) ++ [32] ++ nm) := by
          rw [← eTc3, ← eTc2, ← eTc1, hK]
          simp
        have hl3 : Tc3.length ≤ S.length + 39 := by omega
        clear eTc1 lTc1 eTc2 lTc2 eTc3 lTc3
        replace hT3 := hide hT3
        replace hK := hide hK
        replace hg4 := hide hg4
        replace hb4 := hide hb4
        replace hbr4 := hide hbr4
        replace hk5 := hide hk5
        go_upto_region 12 with fail
        refine wp_region_L (by as_aux_lemma => kernel_rfl) ?_
        refine wpE_seg 0 12 (fuel := 0) (by as_aux_lemma => kernel_rfl) (fun d _ _ _ _ h => by cases d <;> exact h) (by as_aux_lemma => kernel_rfl) (by as_aux_lemma => kernel_rfl) ?_
        simp only [List.drop_zero, List.take_succ_cons, List.take_zero]
        iterate 12 (refine wpQE_step (fun K hK => ?_); go_simp; refine hK _ ?_; clear hK K)
        refine wpQE_nil ?_
        refine wpE_done (by as_aux_lemma => kernel_rfl) (fun w5 hb5 => ?_) 0
        replace hb5 : Below w4.heap.size w4 w5 := hb5
        have hg5 := blk_below hb5 hz4' hg4.out
        have hz5 : wr.heap.size < w5.heap.size := lt_of_blk hg5
        have hbr5 := hbr4.out.trans (hb5.mono (by omega))
        have hb5' := hb4.out.trans (hb5.mono (by omega))
        clear lk la cTc1 zTc1 cTc2 zTc2 cTc3 zTc3 lK hg4 hb4 hbr4 hk5 hK
        replace hg5 := hide hg5
        replace hbr5 := hide hbr5
        replace hb5' := hide hb5'
        clear hb5
        have hc5 := blk_below hbr5.out (Nat.lt_trans hz1 hz4) hc4.out
        have cz := fun i => blk_cell hc5 i
        have cn := fun i => blk_cell hg5.out i
        replace hc5 := hide hc5
        go_upto_if 69 with fail
        go_cut [4] from 44 to 104 (fun sv wx => ∃ T, sv = .string (str T) ∧ T = Tc3 ++ tailT U ∧ T.length ≤ Tc3.length + 33 ∧ Below w5.heap.size w5 wx)
        case first =>
          by_cases hk : (1 : Int) < (kn : Int)
          · obtain ⟨j, m, rfl, hji, hmj, hml, hge⟩ := n6.out hk
            obtain ⟨m', hm', hcm⟩ := up.out j (by omega)
            obtain rfl := Option.some.inj (hmj.symm.trans hm')
            have hcm5 := (hb5'.out.cell (p := ⟨pb, off + j * 7, none⟩) hpb).trans hcm
            have hjl : (j : Int) < (c.nodes.length : Int) := by omega
            have hUe : U = [m.name] := by
              rw [← hU.out, if_pos hk, hge]
            obtain ⟨um, hum⟩ : ∃ x, m.name = x := ⟨_, rfl⟩
            rw [hum] at hcm5 hml hUe
            clear hmj hm' hge hcm hum
            obtain ⟨Td1, eTd1⟩ : ∃ x, Tc3 ++ ([32] : List UInt8) = x := ⟨_, rfl⟩
            have cTd1 : str Tc3 ++ ByteArray.mk #[32] = str Td1 := by rw [← eTd1]; exact str_append _ _
            have lTd1 : Td1.length = Tc3.length + 1 := by rw [← eTd1, List.length_append]; try rfl
            have zTd1 : ¬ 9223372036854775807 < (str Tc3).size + 1 := by simp only [size_str]; omega
            obtain ⟨Td2, eTd2⟩ : ∃ x, Td1 ++ um = x := ⟨_, rfl⟩
            have cTd2 : str Td1 ++ str um = str Td2 := by rw [← eTd2]; exact str_append _ _
            have lTd2 : Td2.length = Td1.length + um.length := by rw [← eTd2, List.length_append]; try rfl
            have zTd2 : ¬ 9223372036854775807 < (str Td1).size + (str um).size := by simp only [size_str]; omega
            have hTd : Td2 = Tc3 ++ tailT U := by
              rw [← eTd2, ← eTd1, hUe]
              simp [tailT]
            have hTl : Td2.length ≤ Tc3.length + 33 := by omega
            clear eTd1 lTd1 eTd2 lTd2 hUe hji
            replace hTd := hide hTd
            replace hTl := hide hTl
            go_wp2_with fail
            go_meet
            exact ⟨Td2, rfl, hTd.out, hTl.out, Below.refl _ _⟩
          · have hUe : U = [] := by rw [← hU.out, if_neg hk]
            replace hUe := hide hUe
            go_wp2_with fail
            go_meet
            exact ⟨Tc3, rfl, by rw [hUe.out]; simp [tailT], by omega, Below.refl _ _⟩
        case rest =>
        obtain ⟨T4, rfl, hT4, hTl4, hb6⟩ := hcut
        have hg6 := blk_below hb6 hz5 hg5.out
        have hbr6 := hbr5.out.trans (hb6.mono (by have := hbr5.out.size; omega))
        have hz6 : wr.heap.size < wc.heap.size := lt_of_blk hg6
        clear hb6 hg5 hbr5 hb5' cz cn n6 up hU
        replace hT4 := hide hT4
        replace hg6 := hide hg6
        replace hbr6 := hide hbr6
        have hqd := fun w => ldig_any wn (by omega) w
        have lD := digL_len 10 wn
        obtain ⟨DG, hDG⟩ : ∃ x, digL 10 wn = x := ⟨_, rfl⟩
        rw [hDG] at hqd lD
        have hDGe : dgF (wn : Int) = DG := by unfold dgF; rw [Int.toNat_natCast]; exact hDG
        obtain ⟨b4, hb4⟩ : ∃ b, ((kn : Int) == 4) = b := ⟨_, rfl⟩
        obtain ⟨bw, hbw⟩ : ∃ b, decide (0 < wn) = b := ⟨_, rfl⟩
        have hk4i : (kn : Int) = 4 ↔ b4 = true := by rw [← hb4, beq_iff_eq]
        have hw0i : (0 : Int) < (wn : Int) ↔ bw = true := by rw [← hbw, decide_eq_true_iff]; omega
        have hcw := blk_lt hg6.out
        clear hDG
        replace hqd := hide hqd
        replace hDGe := hide hDGe
        replace hk4i := hide hk4i
        replace hw0i := hide hw0i
        obtain ⟨EB, hEB⟩ : ∃ b, (b4 || bw) = b := ⟨_, rfl⟩
        have hEBi : ((kn : Int) = 4 ∨ (0 : Int) < (wn : Int)) ↔ EB = true := by rw [← hEB, Bool.or_eq_true, ← hk4i.out, ← hw0i.out]
        have cn := fun i => blk_cell hg6.out i
        go_upto_region 15 with fail
        go_cut [87] from 80 to 86 (fun bv wx => bv = .bool EB ∧ wc = wx)
        case first =>
          clear hV3 hV2 hEBi
          cases b4
          · obtain rfl : bw = EB := hEB
            go_wp2_with fail
            go_meet
            exact ⟨rfl, rfl⟩
          · obtain rfl : true = EB := by rw [← hEB]; rfl
            go_wp2_with fail
            go_meet
            exact ⟨rfl, rfl⟩
        case rest =>
        obtain ⟨rfl, rfl⟩ := hcut
        clear cn hEB
        replace hEBi := hide hEBi
        go_upto_if 87 with fail
        go_cut [4] from 44 to 104 (fun sv wx => ∃ T, sv = .string (str T) ∧ T = T4 ++ tailT V2 ∧ T.length ≤ T4.length + 21 ∧ Below wc.heap.size wc wx)
        case first =>
          have cn := fun i => blk_cell hg6.out i
          clear hV3
          cases EB
          · have hVe : V2 = [] := by rw [← hV2.out, if_neg]; intro h; exact absurd (hEBi.out.1 h) (by decide)
            replace hVe := hide hVe
            clear hV2
            go_wp2_with fail
            go_meet
            exact ⟨T4, rfl, by rw [hVe.out]; simp [tailT], by omega, Below.refl _ _⟩
          · have hVe : V2 = [DG] := by rw [← hV2.out, if_pos (hEBi.out.2 rfl), hDGe.out]
            clear hV2
            obtain ⟨Te1, eTe1⟩ : ∃ x, T4 ++ ([32] : List UInt8) = x := ⟨_, rfl⟩
            have cTe1 : str T4 ++ ByteArray.mk #[32] = str Te1 := by rw [← eTe1]; exact str_append _ _
            have lTe1 : Te1.length = T4.length + 1 := by rw [← eTe1, List.length_append]; try rfl
            have zTe1 : ¬ 9223372036854775807 < (str T4).size + 1 := by simp only [size_str]; omega
            obtain ⟨Te2, eTe2⟩ : ∃ x, Te1 ++ DG = x := ⟨_, rfl⟩
            have cTe2 : str Te1 ++ str DG = str Te2 := by rw [← eTe2]; exact str_append _ _
            have lTe2 : Te2.length = Te1.length + DG.length := by rw [← eTe2, List.length_append]; try rfl
            have zTe2 : ¬ 9223372036854775807 < (str Te1).size + (str DG).size := by simp only [size_str]; omega
            have hTe : Te2 = T4 ++ tailT V2 := by
              rw [← eTe2, ← eTe1, hVe]
              simp [tailT]
            have hTl : Te2.length ≤ T4.length + 21 := by omega
            clear eTe1 lTe1 eTe2 lTe2 hVe
            replace hTe := hide hTe
            replace hTl := hide hTl
            go_wp2_with fail
            refine (hqd.out wc).mono ?_
            rintro r w7 ⟨rfl, hb7⟩
            replace hb7 := hide hb7
            clear cn
            go_wp2_with fail
            go_meet
            exact ⟨Te2, rfl, hTe.out, hTl.out, hb7.out⟩
        case rest =>
        obtain ⟨T5, rfl, hT5, hTl5, hb7⟩ := hcut
        have hg7 := blk_below hb7 hcw hg6.out
        have hbr7 := hbr6.out.trans (hb7.mono (by have := hbr6.out.size; omega))
        clear hb7 hg6 hbr6 hqd hDGe hw0i hV2 hbw lD hEBi
        replace hT5 := hide hT5
        replace hg7 := hide hg7
        replace hbr7 := hide hbr7
        have hAA : textL a.v6 a.hi a.lo = textA a := rfl
        have lA := textA_len a
        have qT := fun w => text_any a.v6 a.hi a.lo hgn.out.1 hgn.out.2 w
        obtain ⟨TA, hTA⟩ : ∃ x, textA a = x := ⟨_, rfl⟩
        rw [hAA, hTA] at qT
        rw [hTA] at lA
        clear hAA
        have hcw7 := blk_lt hg7.out
        replace qT := hide qT
        replace hTA := hide hTA
        have cn := fun i => blk_cell hg7.out i
        go_upto_if 96 with fail
        go_cut [4] from 44 to 104 (fun sv wx => ∃ T, sv = .string (str T) ∧ T = T5 ++ tailT V3 ∧ T.length ≤ T5.length + 40 ∧ Below wc.heap.size wc wx)
        case first =>
          cases b4
          · have hVe : V3 = [] := by rw [← hV3.out, if_neg]; intro h; exact absurd (hk4i.out.1 h) (by decide)
            replace hVe := hide hVe
            clear hV3
            go_wp2_with fail
            go_meet
            exact ⟨T5, rfl, by rw [hVe.out]; simp [tailT], by omega, Below.refl _ _⟩
          · have hVe : V3 = [TA] := by rw [← hV3.out, if_pos (hk4i.out.2 rfl), hTA.out]
            clear hV3
            obtain ⟨Tf1, eTf1⟩ : ∃ x, T5 ++ ([32] : List UInt8) = x := ⟨_, rfl⟩
            have cTf1 : str T5 ++ ByteArray.mk #[32] = str Tf1 := by rw [← eTf1]; exact str_append _ _
            have lTf1 : Tf1.length = T5.length + 1 := by rw [← eTf1, List.length_append]; try rfl
            have zTf1 : ¬ 9223372036854775807 < (str T5).size + 1 := by simp only [size_str]; omega
            obtain ⟨Tf2, eTf2⟩ : ∃ x, Tf1 ++ TA = x := ⟨_, rfl⟩
            have cTf2 : str Tf1 ++ str TA = str Tf2 := by rw [← eTf2]; exact str_append _ _
            have lTf2 : Tf2.length = Tf1.length + TA.length := by rw [← eTf2, List.length_append]; try rfl
            have zTf2 : ¬ 9223372036854775807 < (str Tf1).size + (str TA).size := by simp only [size_str]; omega
            have hTf : Tf2 = T5 ++ tailT V3 := by
              rw [← eTf2, ← eTf1, hVe]
              simp [tailT]
            have hTl : Tf2.length ≤ T5.length + 40 := by omega
            clear eTf1 lTf1 eTf2 lTf2 hVe
            replace hTf := hide hTf
            replace hTl := hide hTl
            go_wp2_with fail
            refine (qT.out wc).mono ?_
            rintro r w8 ⟨rfl, hb8⟩
            replace hb8 := hide hb8
            clear cn
            go_wp2_with fail
            go_meet
            exact ⟨Tf2, rfl, hTf.out, hTl.out, hb8.out⟩
        case rest =>
        obtain ⟨T6, rfl, hT6, hTl6, hb8⟩ := hcut
        have hbr8 := hbr7.out.trans (hb8.mono (by have := hbr7.out.size; omega))
        clear hb8 hg7 hbr7 cn qT hTA hk4i hV3 hb4
        replace hT6 := hide hT6
        replace hbr8 := hide hbr8
        obtain ⟨Tg1, eTg1⟩ : ∃ x, T6 ++ ([10] : List UInt8) = x := ⟨_, rfl⟩
        have cTg1 : str T6 ++ ByteArray.mk #[10] = str Tg1 := by rw [← eTg1]; exact str_append _ _
        have lTg1 : Tg1.length = T6.length + 1 := by rw [← eTg1, List.length_append]; try rfl
        have zTg1 : ¬ 9223372036854775807 < (str T6).size + 1 := by simp only [size_str]; omega
        have hTg : Tg1 = textR (headR c ++ (c.nodes.take (i + 1)).map (nodeR c.nodes)) := by
          rw [← eTg1, hsn.out, ← List.append_assoc, textR_app, ← hS3.out, textR_one, hrow.out, hT6.out, hT5.out, hT4.out, hT3.out]
          simp only [List.append_assoc]
        have hTl : Tg1.length ≤ 220 + 300 * (i + 1) := by omega
        clear eTg1 lTg1 hT6 hT5 hT4 hT3 hrow hsn hS3
        replace hTg := hide hTg
        replace hTl := hide hTl
        go_wp2_with fail
        exact ⟨⟨i + 1, Tg1, by omega, by first | rfl | go_num, rfl, hTg.out, hTl.out, hbr8.out⟩, by simp only [intOf]; omega⟩
      · obtain rfl : i = c.nodes.length := by omega
        have hlt : ((c.nodes.length : Int) < (c.nodes.length : Int)) = False := by simp
        rw [List.take_length] at hS
        replace hS := hide hS
        replace hbr := hide hbr
        go_wp2_with fail
        go_meet
        exact ⟨S, rfl, hS.out, by omega, hbr.out⟩
  case rest =>
  obtain ⟨S2, rfl, hS2, hSl2, hb5⟩ := hcut
  clear hS1

  have hbw5 := hbw4.out.trans (hb5.mono (Nat.le_of_lt (Nat.lt_trans hz1 hz4)))
  have hc5 := blk_below hb5 (Nat.lt_trans hz1 hz4) hc4.out
  have hzc5 : z < wc.heap.size := lt_of_blk hc5
  have hvp5 := hvp4.out.below (hb5.mono (Nat.le_of_lt (Nat.lt_trans hz1 hz4)))
  have hvw5 := hvw4.out.below (hb5.mono (Nat.le_of_lt (Nat.lt_trans hz1 hz4)))
  clear hbw4 hc4 hk4 hz4 hnd4 hvp4 hvw4 hb5
  replace hbw5 := hide hbw5
  replace hc5 := hide hc5
  replace hvp5 := hide hvp5
  replace hvw5 := hide hvw5
  replace hS2 := hide hS2
  go_upto_block 4 with fail
  go_cut [4] (fun sv wx => ∃ S, sv = .string (str S) ∧ S = textR (headR c ++ c.nodes.map (nodeR c.nodes) ++ c.vips.map vipR) ∧ S.length ≤ 30000 ∧ Below wc.heap.size wc wx)
  case first =>
    clear hvw5 hRR
    go_wp2_with fail
    go_loopw [4, 8, 9, 10] (fun sv iv _ _ wr => ∃ (i : Nat) (S : List UInt8), i ≤ c.vips.length ∧ iv = .int .i64 (i : Int) ∧ sv = .string (str S) ∧ S = textR (headR c ++ c.nodes.map (nodeR c.nodes) ++ (c.vips.take i).map vipR) ∧ S.length ≤ 20000 + 300 * i ∧ Below wc.heap.size wc wr) (fun _ iv _ _ _ => c.vips.length - (intOf iv).toNat)
    case atStart => exact ⟨0, S2, by omega, rfl, rfl, by rw [hS2.out]; simp, by omega, Below.refl _ _⟩
    case round =>
      obtain ⟨i, S, hi, rfl, rfl, hS, hSl3, hbr⟩ := hrel
      have cr := fun i => blk_cell (blk_below hbr hzc5 hc5.out) i
      have hzr := hbr.size
      clear hS2
      by_cases hin : i < c.vips.length
      · have hlt : (i : Int) < (c.vips.length : Int) := by omega
        obtain ⟨pb, off, v, rfl, hbk, hni, hcell⟩ := IsT.at (f := vpC) (size := 7) (fun _ => rfl) (by decide) (hvp5.out.below (hbr.mono (by omega))) hin
        have hgn := hg.out.vips v (List.mem_of_getElem? hni)
        obtain ⟨n1, n2, n3, n4, n5, n6⟩ := hmay.out.vips v (List.mem_of_getElem? hni)
        have wi1 : IntKind.i64.wrap ((i : Int) + 1) = ((i + 1 : Nat) : Int) := by rw [wraps62 _ (by omega) (by omega)]; omega
        have hrow := rowT_vip v
        have hsn : (c.vips.take (i + 1)).map vipR = (c.vips.take i).map vipR ++ [vipR v] := by rw [List.take_add_one, hni]; simp
        obtain ⟨V2, hV2⟩ : ∃ x, (if 1 < v.copies then [wCopies, dgF v.copies] else []) = x := ⟨_, rfl⟩
        obtain ⟨V3, hV3⟩ : ∃ x, (if v.nat = true then [wNat] else []) = x := ⟨_, rfl⟩
        rw [hV2, hV3] at hrow
        obtain ⟨a, pr, po, cp, nt⟩ := v
        dsimp only at hgn n1 n2 n3 n4 n5 n6 hrow hV2 hV3
        have y0 : wr.cell? ⟨pb, off + i * 7, none⟩ = some (.bool a.v6) := hcell 0 _ rfl
        have y1 : wr.cell? ⟨pb, off + i * 7 + 1, none⟩ = some (.int .u64 (a.hi : Int)) := hcell 1 _ rfl
        have y2 : wr.cell? ⟨pb, off + i * 7 + 2, none⟩ = some (.int .u64 (a.lo : Int)) := hcell 2 _ rfl
        have y3 : wr.cell? ⟨pb, off + i * 7 + 3, none⟩ = some (.int .i64 pr) := hcell 3 _ rfl
        have y4 : wr.cell? ⟨pb, off + i * 7 + 4, none⟩ = some (.int .i64 po) := hcell 4 _ rfl
        have y5 : wr.cell? ⟨pb, off + i * 7 + 5, none⟩ = some (.int .i64 cp) := hcell 5 _ rfl
        have y6 : wr.cell? ⟨pb, off + i * 7 + 6, none⟩ = some (.bool nt) := hcell 6 _ rfl
        obtain ⟨pn, rfl⟩ : ∃ pn : Nat, po = (pn : Int) := ⟨po.toNat, by omega⟩
        obtain ⟨cn, rfl⟩ : ∃ cn : Nat, cp = (cn : Int) := ⟨cp.toNat, by omega⟩
        clear hcell hni
        have hS3 := hS
        clear hS
        replace hrow := hide hrow
        replace hsn := hide hsn
        replace hgn := hide hgn
        replace hS3 := hide hS3
        replace hV2 := hide hV2
        replace hV3 := hide hV3
        replace hbr := hide hbr
        go_upto_region 23 with fail
        apply wp_region_lit
        iterate 5 (refine wpList_plain rfl fun K hK => ?_; go_simp; refine hK _ _ ?_; clear hK K)
        refine wpl_new rfl rfl 77 _ (alloc_vp _ rfl) 9 rfl (.tmp 116) rfl _ (fun _ => rfl) (fun _ => rfl) rfl (by kernel_rfl) (vp_one a.v6 (a.hi : Int) (a.lo : Int) pr (pn : Int) (cn : Int) nt) ?_
        intro w4 hg4 hb4 hz4'
        refine wpList_nil ?_
        go_simp
        clear y0 y1 y2 y3 y4 y5 y6 cr
        have hbr4 := hbr.out.trans (hb4.mono hzr)
        clear hb4 hbr
        obtain ⟨B17, hB17⟩ : ∃ b, (pr == 17) = b := ⟨_, rfl⟩
        obtain ⟨PW, hPW⟩ : ∃ x, (if B17 = true then [32, 117, 100, 112, 32] else [32, 116, 99, 112, 32] : List UInt8) = x := ⟨_, rfl⟩
        have hPe : [32] ++ (if pr = 17 then wUdp else wTcp) ++ [32] = PW := by
          rw [← hPW, ← hB17]
          rcases n2 with rfl | rfl <;> rfl
        have hPl : PW.length = 5 := by
          rw [← hPW]
          cases B17 <;> rfl
        have cv := fun i => blk_cell hg4 i
        replace hg4 := hide hg4
        replace hbr4 := hide hbr4
        replace hPe := hide hPe
        go_upto_region 24 with fail
        go_upto_if 119 with fail
        go_cut [10] from 105 to 146 (fun pv wx => pv = .string (str PW) ∧ w4 = wx)
        case first =>
          cases B17
          · obtain rfl : [32, 116, 99, 112, 32] = PW := hPW
            go_wp2_with fail
            go_meet
            exact ⟨rfl, rfl⟩
          · obtain rfl : [32, 117, 100, 112, 32] = PW := hPW
            go_wp2_with fail
            go_meet
            exact ⟨rfl, rfl⟩
        case rest =>
        obtain ⟨rfl, rfl⟩ := hcut
        clear hPW hB17 cv
        have hAA : textL a.v6 a.hi a.lo = textA a := rfl
        have lA := textA_len a
        have q1 := fun l : Later w4 => text_any a.v6 a.hi a.lo hgn.out.1 hgn.out.2 l.w
        obtain ⟨TA, hTA⟩ : ∃ x, textA a = x := ⟨_, rfl⟩
        rw [hAA, hTA] at q1
        rw [hTA] at lA
        clear hAA
        have q2 := fun l : Later w4 => ldig_any pn (by omega) l.w
        have lD := digL_len 10 pn
        obtain ⟨DG, hDG⟩ : ∃ x, digL 10 pn = x := ⟨_, rfl⟩
        rw [hDG] at q2 lD
        have hDGe : dgF (pn : Int) = DG := by unfold dgF; rw [Int.toNat_natCast]; exact hDG
        have la := fun l : Later w4 => blk_cell (blk_below l.hb hz4' hg4.out)
        obtain ⟨Tc1, eTc1⟩ : ∃ x, S ++ ([118, 105, 112, 32] : List UInt8) = x := ⟨_, rfl⟩
        have cTc1 : str S ++ ByteArray.mk #[118, 105, 112, 32] = str Tc1 := by rw [← eTc1]; exact str_append _ _
        have lTc1 : Tc1.length = S.length + 4 := by rw [← eTc1, List.length_append]; try rfl
        have zTc1 : ¬ 9223372036854775807 < (str S).size + 4 := by simp only [size_str]; omega
        obtain ⟨Tc2, eTc2⟩ : ∃ x, Tc1 ++ TA = x := ⟨_, rfl⟩
        have cTc2 : str Tc1 ++ str TA = str Tc2 := by rw [← eTc2]; exact str_append _ _
        have lTc2 : Tc2.length = Tc1.length + TA.length := by rw [← eTc2, List.length_append]; try rfl
        have zTc2 : ¬ 9223372036854775807 < (str Tc1).size + (str TA).size := by simp only [size_str]; omega
        obtain ⟨Tc3, eTc3⟩ : ∃ x, Tc2 ++ PW = x := ⟨_, rfl⟩
        have cTc3 : str Tc2 ++ str PW = str Tc3 := by rw [← eTc3]; exact str_append _ _
        have lTc3 : Tc3.length = Tc2.length + PW.length := by rw [← eTc3, List.length_append]; try rfl
        have zTc3 : ¬ 9223372036854775807 < (str Tc2).size + (str PW).size := by simp only [size_str]; omega
        obtain ⟨Tc4, eTc4⟩ : ∃ x, Tc3 ++ DG = x := ⟨_, rfl⟩
        have cTc4 : str Tc3 ++ str DG = str Tc4 := by rw [← eTc4]; exact str_append _ _
        have lTc4 : Tc4.length = Tc3.length + DG.length := by rw [← eTc4, List.length_append]; try rfl
        have zTc4 : ¬ 9223372036854775807 < (str Tc3).size + (str DG).size := by simp only [size_str]; omega
        have hT3 : Tc4 = S ++ (wVip ++ [32] ++ textA a ++ [32] ++ (if pr = 17 then wUdp else wTcp) ++ [32] ++ dgF (pn : Int)) := by
          rw [← eTc4, ← eTc3, ← eTc2, ← eTc1, hTA, hDGe, ← hPe.out]
          simp [wVip]
        have hl3 : Tc4.length ≤ S.length + 68 := by omega
        clear eTc1 lTc1 eTc2 lTc2 eTc3 lTc3 eTc4 lTc4 hDG
        replace hT3 := hide hT3
        replace q1 := hide q1
        replace q2 := hide q2
        replace hTA := hide hTA
        replace hDGe := hide hDGe
        go_upto_region 27 with fail
        refine wp_region_L (by as_aux_lemma => kernel_rfl) ?_
        refine wpE_seg 0 13 (fuel := 0) (by as_aux_lemma => kernel_rfl) (fun d _ _ _ _ h => by cases d <;> exact h) (by as_aux_lemma => kernel_rfl) (by as_aux_lemma => kernel_rfl) ?_
        simp only [List.drop_zero, List.take_succ_cons, List.take_zero]
        iterate 4 (refine wpQE_step (fun K hK => ?_); go_simp; refine hK _ ?_; clear hK K)
        (refine wpQE_step (fun K hK => ?_); go_simp; apply Exists.intro; refine ⟨fun l => ?_, hK _ ?_⟩; (go_at_call 31; refine (q1.out l).mono ?_; rintro e w' ⟨rfl, hb⟩; exact ⟨rfl, hb⟩); clear hK K)
        iterate 5 (refine wpQE_step (fun K hK => ?_); go_simp; refine hK _ ?_; clear hK K)
        (refine wpQE_step (fun K hK => ?_); go_simp; apply Exists.intro; refine ⟨fun l => ?_, hK _ ?_⟩; (go_at_call 30; refine (q2.out l).mono ?_; rintro e w' ⟨rfl, hb⟩; exact ⟨rfl, hb⟩); clear hK K)
        iterate 2 (refine wpQE_step (fun K hK => ?_); go_simp; refine hK _ ?_; clear hK K)
        refine wpQE_nil ?_
        refine wpE_done (by as_aux_lemma => kernel_rfl) (fun w5 hb5 => ?_) 0
        replace hb5 : Below w4.heap.size w4 w5 := hb5
        have hg5 := blk_below hb5 hz4' hg4.out
        have hz5 : wr.heap.size < w5.heap.size := lt_of_blk hg5
        have hbr5 := hbr4.out.trans (hb5.mono (by have := hbr4.out.size; omega))
        clear la cTc1 zTc1 cTc2 zTc2 cTc3 zTc3 cTc4 zTc4 q1 q2 hg4 hbr4 hTA hDGe hPe hb5 lA lD
        replace hg5 := hide hg5
        replace hbr5 := hide hbr5
        have hqd := fun w => ldig_any cn (by omega) w
        have lD := digL_len 10 cn
        obtain ⟨DG, hDG⟩ : ∃ x, digL 10 cn = x := ⟨_, rfl⟩
        rw [hDG] at hqd lD
        have hDGe : dgF (cn : Int) = DG := by unfold dgF; rw [Int.toNat_natCast]; exact hDG
        clear hDG
        have cv := fun i => blk_cell hg5.out i
        replace hqd := hide hqd
        replace hDGe := hide hDGe
        go_upto_if 134 with fail
        go_cut [4] from 105 to 146 (fun sv wx => ∃ T, sv = .string (str T) ∧ T = Tc4 ++ tailT V2 ∧ T.length ≤ Tc4.length + 28 ∧ Below w5.heap.size w5 wx)
        case first =>
          clear hV3
          by_cases hk : 1 < cn
          · have hVe : V2 = [wCopies, DG] := by rw [← hV2.out, if_pos (by omega), hDGe.out]
            have tk : decide (1 < cn) = true := decide_eq_true hk
            obtain ⟨Te1, eTe1⟩ : ∃ x, Tc4 ++ ([32, 99, 111, 112, 105, 101, 115, 32] : List UInt8) = x := ⟨_, rfl⟩
            have cTe1 : str Tc4 ++ ByteArray.mk #[32, 99, 111, 112, 105, 101, 115, 32] = str Te1 := by rw [← eTe1]; exact str_append _ _
            have lTe1 : Te1.length = Tc4.length + 8 := by rw [← eTe1, List.length_append]; try rfl
            have zTe1 : ¬ 9223372036854775807 < (str Tc4).size + 8 := by simp only [size_str]; omega
            obtain ⟨Te2, eTe2⟩ : ∃ x, Te1 ++ DG = x := ⟨_, rfl⟩
            have cTe2 : str Te1 ++ str DG = str Te2 := by rw [← eTe2]; exact str_append _ _
            have lTe2 : Te2.length = Te1.length + DG.length := by rw [← eTe2, List.length_append]; try rfl
            have zTe2 : ¬ 9223372036854775807 < (str Te1).size + (str DG).size := by simp only [size_str]; omega
            have hTe : Te2 = Tc4 ++ tailT V2 := by
              rw [← eTe2, ← eTe1, hVe]
              simp [tailT, wCopies]
            have hTl : Te2.length ≤ Tc4.length + 28 := by omega
            clear eTe1 lTe1 eTe2 lTe2 hVe hV2
            replace hTe := hide hTe
            replace hTl := hide hTl
            go_wp2_with fail
            refine (hqd.out w5).mono ?_
            rintro r w7 ⟨rfl, hb7⟩
            replace hb7 := hide hb7
            clear cv
            go_wp2_with fail
            go_meet
            exact ⟨Te2, rfl, hTe.out, hTl.out, hb7.out⟩
          · have hVe : V2 = [] := by rw [← hV2.out, if_neg (by omega)]
            have tk : decide (1 < cn) = false := decide_eq_false hk
            clear hV2
            replace hVe := hide hVe
            go_wp2_with fail
            go_meet
            exact ⟨Tc4, rfl, by rw [hVe.out]; simp [tailT], by omega, Below.refl _ _⟩
        case rest =>
        obtain ⟨T5, rfl, hT5, hTl5, hb7⟩ := hcut
        have hg7 := blk_below hb7 hz5 hg5.out
        have hbr7 := hbr5.out.trans (hb7.mono (by have := hbr5.out.size; omega))
        clear hb7 hg5 hbr5 cv hqd hDGe hV2 lD
        replace hT5 := hide hT5
        replace hg7 := hide hg7
        replace hbr7 := hide hbr7
        have cv := fun i => blk_cell hg7.out i
        go_upto_if 142 with fail
        go_cut [4] from 105 to 146 (fun sv wx => ∃ T, sv = .string (str T) ∧ T = T5 ++ tailT V3 ∧ T.length ≤ T5.length + 4 ∧ wc = wx)
        case first =>
          cases nt
          · have hVe : V3 = [] := by rw [← hV3.out, if_neg (by decide)]
            replace hVe := hide hVe
            clear hV3
            go_wp2_with fail
            go_meet
            exact ⟨T5, rfl, by rw [hVe.out]; simp [tailT], by omega, rfl⟩
          · have hVe : V3 = [wNat] := by rw [← hV3.out, if_pos rfl]
            clear hV3
            obtain ⟨Tf1, eTf1⟩ : ∃ x, T5 ++ ([32, 110, 97, 116] : List UInt8) = x := ⟨_, rfl⟩
            have cTf1 : str T5 ++ ByteArray.mk #[32, 110, 97, 116] = str Tf1 := by rw [← eTf1]; exact str_append _ _
            have lTf1 : Tf1.length = T5.length + 4 := by rw [← eTf1, List.length_append]; try rfl
            have zTf1 : ¬ 9223372036854775807 < (str T5).size + 4 := by simp only [size_str]; omega
            have hTf : Tf1 = T5 ++ tailT V3 := by
              rw [← eTf1, hVe]
              simp [tailT, wNat]
            have hTl : Tf1.length ≤ T5.length + 4 := by omega
            clear eTf1 lTf1 hVe
            replace hTf := hide hTf
            replace hTl := hide hTl
            go_wp2_with fail
            go_meet
            exact ⟨Tf1, rfl, hTf.out, hTl.out, rfl⟩
        case rest =>
        obtain ⟨T6, rfl, hT6, hTl6, rfl⟩ := hcut
        clear hg7 cv hV3
        replace hT6 := hide hT6
        obtain ⟨Tg1, eTg1⟩ : ∃ x, T6 ++ ([10] : List UInt8) = x := ⟨_, rfl⟩
        have cTg1 : str T6 ++ ByteArray.mk #[10] = str Tg1 := by rw [← eTg1]; exact str_append _ _
        have lTg1 : Tg1.length = T6.length + 1 := by rw [← eTg1, List.length_append]; try rfl
        have zTg1 : ¬ 9223372036854775807 < (str T6).size + 1 := by simp only [size_str]; omega
        have hTg : Tg1 = textR (headR c ++ c.nodes.map (nodeR c.nodes) ++ (c.vips.take (i + 1)).map vipR) := by
          rw [← eTg1, hsn.out, ← List.append_assoc, textR_app, ← hS3.out, textR_one, hrow.out, hT6.out, hT5.out, hT3.out]
          simp only [List.append_assoc]
        have hTl : Tg1.length ≤ 20000 + 300 * (i + 1) := by omega
        clear eTg1 lTg1 hT6 hT5 hT3 hrow hsn hS3
        replace hTg := hide hTg
        replace hTl := hide hTl
        go_wp2_with fail
        exact ⟨⟨i + 1, Tg1, by omega, by first | rfl | go_num, rfl, hTg.out, hTl.out, hbr7.out⟩, by simp only [intOf]; omega⟩
      · obtain rfl : i = c.vips.length := by omega
        have hlt : ((c.vips.length : Int) < (c.vips.length : Int)) = False := by simp
        rw [List.take_length] at hS
        replace hS := hide hS
        replace hbr := hide hbr
        go_wp2_with fail
        go_meet
        exact ⟨S, rfl, hS.out, by omega, hbr.out⟩
  case rest =>
  obtain ⟨S3, rfl, hS3, hSl3, hb6⟩ := hcut
  clear hS2

  have hbw6 := hbw5.out.trans (hb6.mono (Nat.le_of_lt hzc5))
  have hc6 := blk_below hb6 hzc5 hc5.out
  have hzc6 : z < wc.heap.size := lt_of_blk hc6
  have hvw6 := hvw5.out.below (hb6.mono (Nat.le_of_lt hzc5))
  clear hbw5 hc5 hzc5 hvp5 hvw5 hb6
  replace hbw6 := hide hbw6
  replace hc6 := hide hc6
  replace hvw6 := hide hvw6
  replace hS3 := hide hS3
  go_upto_block 6 with fail
  go_cut [4] (fun sv wx => sv = .string (str R) ∧ Below wc.heap.size wc wx)
  case first =>
    go_wp2_with fail
    go_loopw [4, 11] (fun sv iv wr => ∃ (i : Nat) (S : List UInt8), i ≤ c.views.length ∧ iv = .int .i64 (i : Int) ∧ sv = .string (str S) ∧ S = textR (headR c ++ c.nodes.map (nodeR c.nodes) ++ c.vips.map vipR ++ (c.views.take i).map viewR) ∧ S.length ≤ 30000 + 300 * i ∧ Below wc.heap.size wc wr) (fun _ iv _ => c.views.length - (intOf iv).toNat)
    case atStart => exact ⟨0, S3, by omega, rfl, rfl, by rw [hS3.out]; simp, by omega, Below.refl _ _⟩
    case round =>
      obtain ⟨i, S, hi, rfl, rfl, hS, hSl4, hbr⟩ := hrel
      have hzr := hbr.size
      clear hS3
      by_cases hin : i < c.views.length
      · have hlt : (i : Int) < (c.views.length : Int) := by omega
        have cr := fun i => blk_cell (blk_below hbr hzc6 hc6.out) i
        obtain ⟨pb, off, v, rfl, hbk, hni, hcell⟩ := IsT.at (f := vwC) (size := 5) (fun _ => rfl) (by decide) (hvw6.out.below (hbr.mono (by omega))) hin
        have hgn := hg.out.views v (List.mem_of_getElem? hni)
        obtain ⟨⟨n1, n2⟩, n3, n4⟩ := hmay.out.views v (List.mem_of_getElem? hni)
        have wi1 : IntKind.i64.wrap ((i : Int) + 1) = ((i + 1 : Nat) : Int) := by rw [wraps62 _ (by omega) (by omega)]; omega
        have hrow := rowT_view v
        have hsn : (c.views.take (i + 1)).map viewR = (c.views.take i).map viewR ++ [viewR v] := by rw [List.take_add_one, hni]; simp
        have hpb : pb < wr.heap.size := by omega
        obtain ⟨a, bt, lv⟩ := v
        dsimp only at hgn n1 n2 n3 n4 hrow
        obtain ⟨bn, rfl⟩ : ∃ bn : Nat, bt = (bn : Int) := ⟨bt.toNat, by omega⟩
        obtain ⟨ln, rfl⟩ : ∃ ln : Nat, lv = (ln : Int) := ⟨lv.toNat, by omega⟩
        rw [Int.toNat_natCast] at n2 hrow
        have hb128 : bn ≤ 128 := by
          have h1 := (rightP_w a bn n2).2.1
          have h2 := Adr.w_le a
          omega
        have y0 := fun l : Later wr => (l.hb.cell (p := ⟨pb, off + i * 5, none⟩) hpb).trans (hcell 0 _ rfl)
        have y1 := fun l : Later wr => (l.hb.cell (p := ⟨pb, off + i * 5 + 1, none⟩) hpb).trans (hcell 1 _ rfl)
        have y2 := fun l : Later wr => (l.hb.cell (p := ⟨pb, off + i * 5 + 2, none⟩) hpb).trans (hcell 2 _ rfl)
        have y3 := fun l : Later wr => (l.hb.cell (p := ⟨pb, off + i * 5 + 3, none⟩) hpb).trans (hcell 3 _ rfl)
        have y4 := fun l : Later wr => (l.hb.cell (p := ⟨pb, off + i * 5 + 4, none⟩) hpb).trans (hcell 4 _ rfl)
        have hz6r : z < wr.heap.size := by omega
        have la := fun l : Later wr => blk_cell (blk_below l.hb hz6r (blk_below hbr hzc6 hc6.out))
        have q1 := fun l : Later wr => pText_any a hgn (bn : Int) l.w
        have hmn : (min (max (bn : Int) 0) 128).toNat = bn := by omega
        rw [hmn] at q1
        have lA := textP_len60 a bn
        have q2 := fun l : Later wr => ldig_any ln (by omega) l.w
        have lD := digL_len 10 ln
        obtain ⟨TA, hTA⟩ : ∃ x, textP a bn = x := ⟨_, rfl⟩
        rw [hTA] at q1 lA hrow
        obtain ⟨DG, hDG⟩ : ∃ x, digL 10 ln = x := ⟨_, rfl⟩
        rw [hDG] at q2 lD
        have hDGe : dgF (ln : Int) = DG := by unfold dgF; rw [Int.toNat_natCast]; exact hDG
        rw [hDGe] at hrow
        have hS4 := hS
        unfold pArr at q1
        clear hcell hni hS hTA hDG hDGe n2 hgn
        replace hrow := hide hrow
        replace hsn := hide hsn
        replace hS4 := hide hS4
        replace hbr := hide hbr
        replace q1 := hide q1
        replace q2 := hide q2
        obtain ⟨Tc1, eTc1⟩ : ∃ x, S ++ ([118, 105, 101, 119, 32] : List UInt8) = x := ⟨_, rfl⟩
        have cTc1 : str S ++ ByteArray.mk #[118, 105, 101, 119, 32] = str Tc1 := by rw [← eTc1]; exact str_append _ _
        have lTc1 : Tc1.length = S.length + 5 := by rw [← eTc1, List.length_append]; try rfl
        have zTc1 : ¬ 9223372036854775807 < (str S).size + 5 := by simp only [size_str]; omega
        obtain ⟨Tc2, eTc2⟩ : ∃ x, Tc1 ++ TA = x := ⟨_, rfl⟩
        have cTc2 : str Tc1 ++ str TA = str Tc2 := by rw [← eTc2]; exact str_append _ _
        have lTc2 : Tc2.length = Tc1.length + TA.length := by rw [← eTc2, List.length_append]; try rfl
        have zTc2 : ¬ 9223372036854775807 < (str Tc1).size + (str TA).size := by simp only [size_str]; omega
        obtain ⟨Tc3, eTc3⟩ : ∃ x, Tc2 ++ ([32] : List UInt8) = x := ⟨_, rfl⟩
        have cTc3 : str Tc2 ++ ByteArray.mk #[32] = str Tc3 := by rw [← eTc3]; exact str_append _ _
        have lTc3 : Tc3.length = Tc2.length + 1 := by rw [← eTc3, List.length_append]; try rfl
        have zTc3 : ¬ 9223372036854775807 < (str Tc2).size + 1 := by simp only [size_str]; omega
        obtain ⟨Tc4, eTc4⟩ : ∃ x, Tc3 ++ DG = x := ⟨_, rfl⟩
        have cTc4 : str Tc3 ++ str DG = str Tc4 := by rw [← eTc4]; exact str_append _ _
        have lTc4 : Tc4.length = Tc3.length + DG.length := by rw [← eTc4, List.length_append]; try rfl
        have zTc4 : ¬ 9223372036854775807 < (str Tc3).size + (str DG).size := by simp only [size_str]; omega
        obtain ⟨Tc5, eTc5⟩ : ∃ x, Tc4 ++ ([10] : List UInt8) = x := ⟨_, rfl⟩
        have cTc5 : str Tc4 ++ ByteArray.mk #[10] = str Tc5 := by rw [← eTc5]; exact str_append _ _
        have lTc5 : Tc5.length = Tc4.length + 1 := by rw [← eTc5, List.length_append]; try rfl
        have zTc5 : ¬ 9223372036854775807 < (str Tc4).size + 1 := by simp only [size_str]; omega
        have hTg : Tc5 = textR (headR c ++ c.nodes.map (nodeR c.nodes) ++ c.vips.map vipR ++ (c.views.take (i + 1)).map viewR) := by
          rw [← eTc5, ← eTc4, ← eTc3, ← eTc2, ← eTc1, hsn.out, ← List.append_assoc (headR c ++ c.nodes.map (nodeR c.nodes) ++ c.vips.map vipR), textR_app, ← hS4.out, textR_one, hrow.out]
          simp [wView]
        have hTl : Tc5.length ≤ 30000 + 300 * (i + 1) := by omega
        clear eTc1 lTc1 eTc2 lTc2 eTc3 lTc3 eTc4 lTc4 eTc5 lTc5 hrow hsn hS4 lA lD
        replace hTg := hide hTg
        replace hTl := hide hTl
        go_upto_region 36 with fail
        clear cr
        refine wp_region_L (by as_aux_lemma => kernel_rfl) ?_
        refine wpE_seg 0 21 (fuel := 0) (by as_aux_lemma => kernel_rfl) (fun d _ _ _ _ h => by cases d <;> exact h) (by as_aux_lemma => kernel_rfl) (by as_aux_lemma => kernel_rfl) ?_
        simp only [List.drop_zero, List.take_succ_cons, List.take_zero]
        iterate 8 (refine wpQE_step (fun K hK => ?_); go_simp; refine hK _ ?_; clear hK K)
        (refine wpQE_step (fun K hK => ?_); go_simp; apply Exists.intro; refine ⟨fun l => ?_, hK _ ?_⟩; (go_at_call 32; refine (q1.out l).mono ?_; rintro e w' ⟨rfl, hb⟩; exact ⟨rfl, hb⟩); clear hK K)
        iterate 8 (refine wpQE_step (fun K hK => ?_); go_simp; refine hK _ ?_; clear hK K)
        (refine wpQE_step (fun K hK => ?_); go_simp; apply Exists.intro; refine ⟨fun l => ?_, hK _ ?_⟩; (go_at_call 30; refine (q2.out l).mono ?_; rintro e w' ⟨rfl, hb⟩; exact ⟨rfl, hb⟩); clear hK K)
        iterate 3 (refine wpQE_step (fun K hK => ?_); go_simp; refine hK _ ?_; clear hK K)
        refine wpQE_nil ?_
        refine wpE_done (by as_aux_lemma => kernel_rfl) (fun w5 hb5 => ?_) 0
        replace hb5 : Below wr.heap.size wr w5 := hb5
        have hbr5 := hbr.out.trans (hb5.mono hzr)
        clear la y0 y1 y2 y3 y4 q1 q2 hbr hb5 cTc1 zTc1 cTc2 zTc2 cTc3 zTc3 cTc4 zTc4 cTc5 zTc5
        replace hbr5 := hide hbr5
        go_wp2_with fail
        exact ⟨⟨i + 1, Tc5, by omega, by first | rfl | go_num, rfl, hTg.out, hTl.out, hbr5.out⟩, by simp only [intOf]; omega⟩
      · obtain rfl : i = c.views.length := by omega
        have hlt : ((c.views.length : Int) < (c.views.length : Int)) = False := by simp
        have cr := fun i => blk_cell (blk_below hbr hzc6 hc6.out) i
        rw [List.take_length, hRR.out] at hS
        subst hS
        replace hbr := hide hbr
        go_wp2_with fail
        go_meet
        exact ⟨rfl, hbr.out⟩
  case rest =>
  obtain ⟨rfl, hb7⟩ := hcut
  have hbz := hbw6.out.trans (hb7.mono (Nat.le_of_lt hzc6))
  clear hbw6 hc6 hvw6 hS3 hb7 hRR hg hmay
  replace hbz := hide hbz
  go_wp2_with fail
  go_ret
  exact ⟨rfl, hbz.out⟩
end Conf18
end Go.Proofs.YtcpokkkdmenmgaaDoor
