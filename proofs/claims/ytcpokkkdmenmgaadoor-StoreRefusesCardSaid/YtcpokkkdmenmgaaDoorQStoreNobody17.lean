/- tree: Len, Node, Find, Levels. Condition: fewer than 2^40 nodes. -/
import Derived.Test.YtcpokkkdmenmgaaDoorQStoreNobody16
import Derived.Test.YtcpokkkdmenmgaaDoorQStoreNobody8
import Derived.Test.YtcpokkkdmenmgaaDoorQStoreNobody11
namespace Go.Proofs.YtcpokkkdmenmgaaDoor
open Go.RowKit Go.ChangeShapes Go.WideShapes Go.ChangeAt Go.Deep
namespace Tree16
open Conf18 (Nd zA ndC nd_one eqw lt_of_blk)
def findF (ns : List Nd) (s : List UInt8) : Int := match ns.findIdx? (fun n => decide (n.name = s)) with | some k => (k : Int) | none => -1
theorem findF_hit {ns : List Nd} {s : List UInt8} {k : Nat} {nd : Nd} (hk : ns[k]? = some nd) (h3 : nd.name = s) (h4 : ∀ (j : Nat) (nd' : Nd), j < k → ns[j]? = some nd' → nd'.name ≠ s) : findF ns s = (k : Int) := by
  obtain ⟨hkl, hke⟩ := List.getElem?_eq_some_iff.1 hk
  have e : ns.findIdx? (fun n => decide (n.name = s)) = some k := by
    rw [List.findIdx?_eq_some_iff_getElem]
    refine ⟨hkl, by rw [hke]; simp [h3], fun j hj => ?_⟩
    have := h4 j _ hj (List.getElem?_eq_getElem (by omega))
    simpa using this
  unfold findF
  rw [e]
theorem findF_miss {ns : List Nd} {s : List UInt8} (h4 : ∀ (j : Nat) (nd' : Nd), ns[j]? = some nd' → nd'.name ≠ s) : findF ns s = -1 := by
  have e : ns.findIdx? (fun n => decide (n.name = s)) = none := by
    rw [List.findIdx?_eq_none_iff]
    intro nd hn
    obtain ⟨j, hj⟩ := List.mem_iff_getElem?.1 hn
    simpa using h4 j nd hj
  unfold findF
  rw [e]
set_option maxRecDepth 20000 in
set_option maxHeartbeats 8000000 in
theorem find1_any (n : Nd) (s : List UInt8) (z : Nat) (w : World) (hc : w.cell? ⟨z, 0, none⟩ = some (.string (str s))) (hz : z < w.heap.size) :
    Calls Tryd.prog 70 #[.agg (ndA n), .pointer (some ⟨z, 0, none⟩)] w fun e w' => e = .returned (.bool (decide (n.name = s))) ∧ Below w.heap.size w w' := by
  obtain ⟨nm, kd, ab, wt, ⟨v6, hi, lo⟩⟩ := n
  unfold ndA
  dsimp only
  obtain ⟨w1, hw1⟩ : ∃ w1, w.alloc (.cells #[.string (str nm), .int .i64 kd, .int .i64 ab, .int .i64 wt, .bool v6, .int .u64 (hi : Int), .int .u64 (lo : Int)] 72) = w1 := ⟨_, rfl⟩
  have hb1 : Below w.heap.size w w1 := hw1 ▸ (Below.refl _ _).alloc (Nat.le_refl _) _
  have hg1 : w1.heap[w.heap.size]? = some (.cells #[.string (str nm), .int .i64 kd, .int .i64 ab, .int .i64 wt, .bool v6, .int .u64 (hi : Int), .int .u64 (lo : Int)] 72 (0, 0)) := hw1 ▸ blk_new _ _ _
  have c0 := blk_cell hg1 0
  have c1 := (hb1.cell (p := ⟨z, 0, none⟩) hz).trans hc
  have te := eqw nm s
  have hst : (str s).toList = s := by simp [str, ByteArray.toList_eq]
  rw [← hst] at te
  have te2 : ((str nm).toList == (str s).toList) = decide (nm = s) := by
    rw [te]
    congr 1
    rw [hst]
  clear te hst hg1
  obtain ⟨b, hb⟩ : ∃ b, decide (nm = s) = b := ⟨_, rfl⟩
  rw [hb] at te2 ⊢
  replace hb1 := hide hb1
  go_enter Tryd.func70, Tryd.ntmps70
  go_upto_region 1 with fail
  clear hw1
  go_wp2_with fail
  go_ret
  exact ⟨rfl, hb1.out⟩
set_option maxRecDepth 20000 in
set_option maxHeartbeats 8000000 in
theorem index_any (ns : List Nd) (s : List UInt8) (z k cap : Nat) (A : Option Addr) (w : World) (hl : IsT ndC 7 w w.heap.size A k ns) (hk : k ≤ 1099511627776) (hc : w.cell? ⟨z, 0, none⟩ = some (.string (str s))) (hz : z < w.heap.size) :
    Calls Tryd.prog 69 #[.slice A k cap, .func (.func 70) #[] #[.pointer (some ⟨z, 0, none⟩)]] w fun e w' => e = .returned (.int .i64 (findF ns s)) ∧ Below w.heap.size w w' := by
  obtain ⟨X, hX⟩ : ∃ X, findF ns s = X := ⟨_, rfl⟩
  have hX1 := fun k nd a b c => hX.symm.trans (findF_hit (ns := ns) (s := s) (k := k) (nd := nd) a b c)
  have hX2 := fun h => hX.symm.trans (findF_miss (ns := ns) (s := s) h)
  rw [hX]
  clear hX
  have hlen := hl.1
  replace hl := hide hl
  replace hX1 := hide hX1
  replace hX2 := hide hX2
  replace hc := hide hc
  go_enter Tryd.func69, Tryd.ntmps69
  go_wp2_with fail
  go_loopw [5, 8] (fun _ iv wr => ∃ i : Nat, i ≤ k ∧ iv = .int .i64 (i : Int) ∧ (∀ (j : Nat) (nd' : Nd), j < i → ns[j]? = some nd' → nd'.name ≠ s) ∧ Below w.heap.size w wr) (fun _ iv _ => k - (intOf iv).toNat)
  case atStart => exact ⟨0, by omega, rfl, fun j nd hj => by omega, Below.refl _ _⟩
  case round =>
    obtain ⟨i, hi, rfl, hno, hB⟩ := hrel
    by_cases hin : i < k
    · have hlt : (i : Int) < (k : Int) := by omega
      obtain ⟨b, off, nd, rfl, hbk, hni, hcell⟩ := IsT.at (f := ndC) (size := 7) (fun _ => rfl) (by decide) (hl.out.below hB) hin
      have hcz := (hB.cell (p := ⟨z, 0, none⟩) hz).trans hc.out
      have hsz := hB.size
      have q := find1_any nd s z wr hcz (by omega)
      have wi1 : IntKind.i64.wrap ((i : Int) + 1) = ((i + 1 : Nat) : Int) := by rw [wraps62 _ (by omega) (by omega)]; omega
      have hXi := fun he => hX1.out i nd hni he hno
      have hno2 : ¬ nd.name = s → ∀ (j : Nat) (nd' : Nd), j < i + 1 → ns[j]? = some nd' → nd'.name ≠ s := by
        intro he j nd' hj hd
        by_cases hji : j = i
        · subst hji
          obtain rfl := Option.some.inj (hni.symm.trans hd)
          exact he
        · exact hno j nd' (by omega) hd
      obtain ⟨bv, hbv⟩ : ∃ bv, decide (nd.name = s) = bv := ⟨_, rfl⟩
      rw [hbv] at q
      have e1 : bv = true → X = (i : Int) := fun h => hXi (of_decide_eq_true (hbv.trans h))
      have e2 : bv = false → ∀ (j : Nat) (nd' : Nd), j < i + 1 → ns[j]? = some nd' → nd'.name ≠ s := fun h => hno2 (of_decide_eq_false (hbv.trans h))
      clear hXi hno2 hno hbv hni hcz
      obtain ⟨nm, kd, ab, wt, ⟨v6, hi', lo⟩⟩ := nd
      have y0 : wr.cell? ⟨b, off + i * 7, none⟩ = some (.string (str nm)) := hcell 0 _ rfl
      have y1 : wr.cell? ⟨b, off + i * 7 + 1, none⟩ = some (.int .i64 kd) := hcell 1 _ rfl
      have y2 : wr.cell? ⟨b, off + i * 7 + 2, none⟩ = some (.int .i64 ab) := hcell 2 _ rfl
      have y3 : wr.cell? ⟨b, off + i * 7 + 3, none⟩ = some (.int .i64 wt) := hcell 3 _ rfl
      have y4 : wr.cell? ⟨b, off + i * 7 + 4, none⟩ = some (.bool v6) := hcell 4 _ rfl
      have y5 : wr.cell? ⟨b, off + i * 7 + 5, none⟩ = some (.int .u64 (hi' : Int)) := hcell 5 _ rfl
      have y6 : wr.cell? ⟨b, off + i * 7 + 6, none⟩ = some (.int .u64 (lo : Int)) := hcell 6 _ rfl
      unfold ndA at q
      dsimp only at q
      clear hcell
      replace q := hide q
      replace e1 := hide e1
      replace e2 := hide e2
      replace hB := hide hB
      cases bv
      · have e3 := e2.out rfl
        clear e1 e2
        replace e3 := hide e3
        go_wp2_with fail
        refine (q.out).mono ?_
        rintro e w2 ⟨rfl, hb2⟩
        clear y0 y1 y2 y3 y4 y5 y6 q
        go_wp2_with fail
        exact ⟨⟨i + 1, by omega, by first | rfl | go_num, e3.out, hB.out.trans (hb2.mono hsz)⟩, by simp only [intOf]; omega⟩
      · obtain rfl := e1.out rfl
        clear e1 e2
        go_wp2_with fail
        refine (q.out).mono ?_
        rintro e w2 ⟨rfl, hb2⟩
        clear y0 y1 y2 y3 y4 y5 y6 q
        go_wp2_with fail
        go_ret
        exact ⟨rfl, hB.out.trans (hb2.mono hsz)⟩
    · obtain rfl : i = k := by omega
      have hlt : ((i : Int) < (i : Int)) = False := by simp
      have hXn := hX2.out (fun j nd' hd => by
        by_cases hj : j < i
        · exact hno j nd' hj hd
        · have h5 := (List.getElem?_eq_some_iff.1 hd).1
          omega)
      clear hno
      replace hXn := hide hXn
      replace hB := hide hB
      go_wp2_with fail
      go_ret
      exact ⟨by rw [hXn.out]; rfl, hB.out⟩
/-- Find. -/
theorem find_any (ns : List Nd) (s : List UInt8) (base x : Nat) (w : World) (hT : TreeAt w base x ns) :
    Calls Tryd.prog 37 #[.pointer (some ⟨x, 0, none⟩), .string (str s)] w fun e w' => e = .returned (.int .i64 (findF ns s)) ∧ Below w.heap.size w w' := by
  obtain ⟨w1, hw1⟩ : ∃ w1, w.alloc (.cells #[.string (str s)] 9) = w1 := ⟨_, rfl⟩
  have hb1 : Below w.heap.size w w1 := hw1 ▸ (Below.refl _ _).alloc (Nat.le_refl _) _
  have hg1 : w1.heap[w.heap.size]? = some (.cells #[.string (str s)] 9 (0, 0)) := hw1 ▸ blk_new _ _ _
  obtain ⟨nv, kv, tv, hv, us, hC⟩ := hT
  have hsm := hC.small.1
  have hC1 := hC.on hb1
  obtain ⟨An, cn, hnv, h1, h2, hvn⟩ := own_isv hC1.nodes
  have k0 := blk_cell hC1.blk 0
  subst hnv
  have q := index_any ns s w.heap.size ns.length cn An w1 ⟨rfl, hvn⟩ (by omega) (blk_cell hg1 0) (lt_of_blk hg1)
  clear hC hC1 hvn hg1
  replace q := hide q
  replace hb1 := hide hb1
  go_enter Tryd.func37, Tryd.ntmps37
  go_upto_region 1 with fail
  clear hw1
  go_wp2_with fail
  refine (q.out).mono ?_
  rintro e w2 ⟨rfl, hb2⟩
  go_wp2_with fail
  go_ret
  exact ⟨rfl, hb1.out.trans (hb2.mono hb1.out.size)⟩
theorem len_any (ns : List Nd) (base x : Nat) (w : World) (hT : TreeAt w base x ns) :
    Calls Tryd.prog 71 #[.pointer (some ⟨x, 0, none⟩)] w fun e w' => e = .returned (.int .i64 (ns.length : Int)) ∧ w' = w := by
  obtain ⟨nv, kv, tv, hv, us, hC⟩ := hT
  obtain ⟨An, cn, hnv, h1, h2, hvn⟩ := own_isv hC.nodes
  have k0 := blk_cell hC.blk 0
  subst hnv
  clear hC hvn
  go_enter Tryd.func71, Tryd.ntmps71
  go_wp2_with fail
  go_ret
  exact ⟨rfl, rfl⟩
/-- The node of a place; the zero one, if there is none. -/
def nodeF (ns : List Nd) (i : Int) : Nd := if i < 0 ∨ (ns.length : Int) ≤ i then ⟨[], 0, 0, 0, zA⟩ else ns.getD i.toNat ⟨[], 0, 0, 0, zA⟩
set_option maxRecDepth 20000 in
set_option maxHeartbeats 8000000 in
theorem node_any (ns : List Nd) (i : Int) (base x : Nat) (w : World) (hT : TreeAt w base x ns) :
    Calls Tryd.prog 38 #[.pointer (some ⟨x, 0, none⟩), .int .i64 i] w fun e w' => e = .returned (.agg (ndA (nodeF ns i))) ∧ Below w.heap.size w w' := by
  obtain ⟨w1, hw1⟩ : ∃ w1, w.alloc (.cells #[.string ⟨#[]⟩, .int .i64 0, .int .i64 0, .int .i64 0, .bool false, .int .u64 0, .int .u64 0] 72) = w1 := ⟨_, rfl⟩
  have hb1 : Below w.heap.size w w1 := hw1 ▸ (Below.refl _ _).alloc (Nat.le_refl _) _
  have hg1 : w1.heap[w.heap.size]? = some (.cells #[.string ⟨#[]⟩, .int .i64 0, .int .i64 0, .int .i64 0, .bool false, .int .u64 0, .int .u64 0] 72 (0, 0)) := hw1 ▸ blk_new _ _ _
  have hsz1 := lt_of_blk hg1
  have hT1 : TreeAt w1 base x ns := by
    obtain ⟨nv, kv, tv, hv, us, hC⟩ := hT
    exact ⟨nv, kv, tv, hv, us, hC.on hb1⟩
  have ql := len_any ns base x w1 hT1
  obtain ⟨nv, kv, tv, hv, us, hC⟩ := hT1
  have hsm := hC.small.1
  obtain ⟨An, cn, hnv, h1, h2, hvn⟩ := own_isv hC.nodes
  have k0 := blk_cell hC.blk 0
  subst hnv
  have hl : IsT ndC 7 w1 w1.heap.size An ns.length ns := ⟨rfl, hvn⟩
  obtain ⟨N, hN⟩ : ∃ N, nodeF ns i = N := ⟨_, rfl⟩
  rw [hN]
  obtain ⟨L, hL⟩ : ∃ L, ns.length = L := ⟨_, rfl⟩
  unfold nodeF at hN
  rw [hL] at hN k0 hl ql hsm
  clear hC hvn hT
  replace hb1 := hide hb1
  replace hg1 := hide hg1
  replace hl := hide hl
  replace ql := hide ql
  by_cases hi : i < 0 ∨ (L : Int) ≤ i
  · rw [if_pos hi] at hN
    subst hN
    have t1 : (decide (i < 0) || decide ((L : Int) ≤ i)) = true := by simpa using hi
    obtain ⟨b1, hb⟩ : ∃ b, decide (i < 0) = b := ⟨_, rfl⟩
    obtain ⟨b2, hb2⟩ : ∃ b, decide ((L : Int) ≤ i) = b := ⟨_, rfl⟩
    rw [hb, hb2] at t1
    go_enter Tryd.func38, Tryd.ntmps38
    go_upto_region 1 with fail
    clear hw1
    go_cut [12] (fun bv wx => bv = .bool true ∧ w1 = wx)
    case first =>
      cases b1
      · obtain rfl : b2 = true := t1
        go_wp2_with fail
        refine (ql.out).mono ?_
        rintro e w1 ⟨rfl, rfl⟩
        go_wp2_with fail
        go_meet
        exact ⟨rfl, rfl⟩
      · go_wp2_with fail
        go_meet
        exact ⟨rfl, rfl⟩
    case rest =>
    obtain ⟨rfl, rfl⟩ := hcut
    go_upto_region 2 with fail
    apply wp_region_lit
    iterate 1 (refine wpList_plain rfl fun K hK => ?_; go_simp; refine hK _ _ ?_; clear hK K)
    refine wpl_st rfl 72 (.tmp 4) (.tmp 13) rfl (w.heap.size) 0 rfl (#[.string ⟨#[]⟩, .int .i64 0, .int .i64 0, .int .i64 0, .bool false, .int .u64 0, .int .u64 0]) rfl hg1.out (by simp) (by kernel_rfl) (nd_one _ _ _ _ _ _ _) fun w9 hg9 g9 => ?_
    rw [putA_whole _ _ (by rfl)] at hg9
    have hb9 : Below (w.heap.size) w w9 := (hb1.out).trans (below_grown g9 (by have := (hb1.out).size; omega) (Nat.le_refl _))
    have hld : (loadVar 72 ⟨w.heap.size, 0, none⟩).run Tryd.prog w9 = .ok (.agg (#[.string ⟨#[]⟩, .int .i64 0, .int .i64 0, .int .i64 0, .bool false, .int .u64 0, .int .u64 0])) w9 := by
      simpa using run_loadVar_mid w9 (w.heap.size) 0 72 (#[.string ⟨#[]⟩, .int .i64 0, .int .i64 0, .int .i64 0, .bool false, .int .u64 0, .int .u64 0]).toList _ (blk_range hg9) Tryd.underlying72 rfl (by kernel_rfl)
    clear hg9 g9
    replace hld := hide hld
    replace hb9 := hide hb9
    refine wpList_nil ?_
    go_simp
    go_wp2_with fail
    exact bodyPost_ret (v := .agg (ndA ⟨[], 0, 0, 0, zA⟩)) (by simp [results, Tryd.results38, asAddr, hld.out, Result.andThen, ndA, zA, str]) rfl ⟨rfl, hb9.out⟩
  · rw [if_neg hi] at hN
    have t1 : decide (i < 0) = false := by simp; omega
    have t2 : decide ((L : Int) ≤ i) = false := by simp; omega
    obtain ⟨j, rfl⟩ : ∃ j : Nat, i = (j : Int) := ⟨i.toNat, by omega⟩
    have hj : j < L := by omega
    obtain ⟨b, off, n, rfl, hbl, hni, hcell⟩ := IsT.at (f := ndC) (size := 7) (fun _ => rfl) (by decide) hl.out hj
    have hNe : N = n := by
      rw [← hN]
      show ns.getD j _ = n
      rw [List.getD_eq_getElem?_getD, hni]
      rfl
    subst hNe
    clear hN hni
    obtain ⟨nm, kd, ab, wt, ⟨v6, hi', lo⟩⟩ := N
    have y0 : w1.cell? ⟨b, off + j * 7, none⟩ = some (.string (str nm)) := hcell 0 _ rfl
    have y1 : w1.cell? ⟨b, off + j * 7 + 1, none⟩ = some (.int .i64 kd) := hcell 1 _ rfl
    have y2 : w1.cell? ⟨b, off + j * 7 + 2, none⟩ = some (.int .i64 ab) := hcell 2 _ rfl
    have y3 : w1.cell? ⟨b, off + j * 7 + 3, none⟩ = some (.int .i64 wt) := hcell 3 _ rfl
    have y4 : w1.cell? ⟨b, off + j * 7 + 4, none⟩ = some (.bool v6) := hcell 4 _ rfl
    have y5 : w1.cell? ⟨b, off + j * 7 + 5, none⟩ = some (.int .u64 (hi' : Int)) := hcell 5 _ rfl
    have y6 : w1.cell? ⟨b, off + j * 7 + 6, none⟩ = some (.int .u64 (lo : Int)) := hcell 6 _ rfl
    clear hcell
    unfold ndA
    dsimp only
    go_enter Tryd.func38, Tryd.ntmps38
    go_upto_region 1 with fail
    clear hw1
    go_cut [12] (fun bv wx => bv = .bool false ∧ w1 = wx)
    case first =>
      clear y0 y1 y2 y3 y4 y5 y6
      go_wp2_with fail
      refine (ql.out).mono ?_
      rintro e w1 ⟨rfl, rfl⟩
      go_wp2_with fail
      go_meet
      exact ⟨by rw [decide_eq_false (by omega)], rfl⟩
    case rest =>
    obtain ⟨rfl, rfl⟩ := hcut
    go_upto_region 3 with fail
    apply wp_region_lit
    iterate 7 (refine wpList_plain rfl fun K hK => ?_; go_simp; refine hK _ _ ?_; clear hK K)
    refine wpl_st rfl 72 (.tmp 4) (.tmp 20) rfl (w.heap.size) 0 rfl (#[.string (str nm), .int .i64 kd, .int .i64 ab, .int .i64 wt, .bool v6, .int .u64 (hi' : Int), .int .u64 (lo : Int)]) rfl hg1.out (by simp) (by kernel_rfl) (nd_one _ _ _ _ _ _ _) fun w9 hg9 g9 => ?_
    rw [putA_whole _ _ (by rfl)] at hg9
    have hb9 : Below (w.heap.size) w w9 := (hb1.out).trans (below_grown g9 (by have := (hb1.out).size; omega) (Nat.le_refl _))
    have hld : (loadVar 72 ⟨w.heap.size, 0, none⟩).run Tryd.prog w9 = .ok (.agg (#[.string (str nm), .int .i64 kd, .int .i64 ab, .int .i64 wt, .bool v6, .int .u64 (hi' : Int), .int .u64 (lo : Int)])) w9 := by
      simpa using run_loadVar_mid w9 (w.heap.size) 0 72 (#[.string (str nm), .int .i64 kd, .int .i64 ab, .int .i64 wt, .bool v6, .int .u64 (hi' : Int), .int .u64 (lo : Int)]).toList _ (blk_range hg9) Tryd.underlying72 rfl (by kernel_rfl)
    clear hg9 g9
    replace hld := hide hld
    replace hb9 := hide hb9
    refine wpList_nil ?_
    go_simp
    go_wp2_with fail
    exact bodyPost_ret (v := .agg #[.string (str nm), .int .i64 kd, .int .i64 ab, .int .i64 wt, .bool v6, .int .u64 (hi' : Int), .int .u64 (lo : Int)]) (by simp [results, Tryd.results38, asAddr, hld.out, Result.andThen]) rfl ⟨rfl, hb9.out⟩
theorem infoT_int : (Tryd.prog.info? 3).map (fun i => (i.zero, i.size, i.bytes)) = some (some (.int .i64 0), 1, 8) := by kernel_rfl
set_option maxRecDepth 20000 in
set_option maxHeartbeats 8000000 in
theorem tclone_any (xs : List Value) (n c : Nat) (A : Option Addr) (w : World) (hx : IsV w w.heap.size 1 A n xs) (hn : n ≤ 1099511627776) (h1 : ∀ u ∈ xs, u.oneCell' = true) :
    Calls Tryd.prog 85 #[.slice A n c] w fun e w' => ∃ v, e = .returned v ∧ w'.ownsRow w.heap.size 3 1 v n xs ∧ Below w.heap.size w w' := by
  have q := fun (w : World) (a : Option Addr) (n c : Nat) => Lib.run_eql_slice_nil (P := Tryd.prog) w _ _ a n c 0 0 Tryd.underlying109
  rcases A with _ | ⟨b, off, pt⟩
  · have h0 : n = 0 := by
      rcases Nat.eq_zero_or_pos n with h | h
      · exact h
      · obtain ⟨b, off, e, -⟩ := hx.2 h
        cases e
    subst h0
    have hnil : xs = [] := by
      have := hx.1
      simpa using this
    subst hnil
    clear hx
    go_enter Tryd.func85, Tryd.ntmps85
    go_wp2_with fail
    go_ret
    exact ⟨_, rfl, World.ownsRow_nil _ _ _ _, Below.refl _ _⟩
  · obtain ⟨i, hi1, hz1, hsz, hbt⟩ := info_parts infoT_int
    have hb1 : Below w.heap.size w (w.alloc (.cells #[] 3)) := (Below.refl _ _).alloc (Nat.le_refl _) _
    have hx1 := hx.below hb1
    have ho : (w.alloc (.cells #[] 3)).ownsRow w.heap.size 3 1 (.slice (some ⟨w.heap.size, 0, none⟩) 0 0) 0 [] := World.ownsRow_made w #[] 0 (Nat.le_refl _) (Nat.zero_le _) rfl
    have hz := hb1.size
    replace hx := hide hx
    replace hx1 := hide hx1
    replace ho := hide ho
    replace hb1 := hide hb1
    go_enter Tryd.func85, Tryd.ntmps85
    go_upto_region 3 with fail
    apply wp_region_lit
    iterate 2 (refine wpList_plain rfl fun K hK => ?_; go_simp; refine hK _ _ ?_; clear hK K)
    refine wpl_append _ rfl (.tmp 5) (.tmp 6) 109 rfl w.heap.size 3 i _ 1 8 Tryd.underlying109 hi1 hz1 hsz hbt rfl (by decide) _ 0 [] rfl ho.out w.heap.size (some ⟨b, off, pt⟩) n c xs rfl hx1.out h1 (by unfold maxLen; omega) (by omega) hz fun v w2 q1 q2 q3 => ?_
    rw [Nat.zero_add, List.nil_append] at q1
    have hB := hb1.out.trans (below_of_grown q2 hz (fun k hk => by cases hk; exact Nat.le_refl _))
    clear q2 q3
    replace q1 := hide q1
    replace hB := hide hB
    iterate 1 (refine wpList_plain rfl fun K hK => ?_; go_simp; refine hK _ _ ?_; clear hK K)
    refine wpList_nil ?_
    go_simp
    go_wp2_with fail
    go_ret
    exact ⟨v, rfl, q1.out, hB.out⟩
theorem levels_any (ns : List Nd) (base x : Nat) (w : World) (hT : TreeAt w base x ns) :
    Calls Tryd.prog 67 #[.pointer (some ⟨x, 0, none⟩)] w fun e w' => ∃ v, e = .returned v ∧ w'.ownsRow w.heap.size 3 1 v (topF ns).length ((topF ns).map intv) ∧ Below w.heap.size w w' := by
  obtain ⟨nv, kv, tv, hv, us, hC⟩ := hT
  have hsm := hC.small.1
  obtain ⟨At, ct, htv, h1, h2, hvt⟩ := own_isv (hC.rows.own 0 tv _ rfl rfl)
  have k2 := blk_cell hC.blk 2
  subst htv
  have hle : (topF ns).length ≤ ns.length := by
    unfold topF placesF placesN
    rw [List.length_map]
    have := List.length_filter_le (fun i => (ns[i]?).any (fun n => decide (n.kind = 1))) (List.range ns.length)
    rw [List.length_range] at this
    omega
  have q := tclone_any ((topF ns).map intv) (topF ns).length ct At w hvt (by omega) (fun u hu => by obtain ⟨y, _, rfl⟩ := List.mem_map.1 hu; rfl)
  clear hC hvt
  replace q := hide q
  go_enter Tryd.func67, Tryd.ntmps67
  go_wp2_with fail
  refine (q.out).mono ?_
  rintro e w2 ⟨v, rfl, ho, hb⟩
  replace ho := hide ho
  replace hb := hide hb
  go_wp2_with fail
  go_ret
  exact ⟨v, rfl, ho.out, hb.out⟩
end Tree16
end Go.Proofs.YtcpokkkdmenmgaaDoor
/- valid: self: hosts have an address from which packets are sent. Condition: fewer than 2^40 nodes. -/
namespace Go.Proofs.YtcpokkkdmenmgaaDoor
open Go.RowKit Go.ChangeShapes Go.WideShapes Go.ChangeAt Go.Deep
namespace Val19
open Conf18 (Nd Vp Vw Cfg zA ndC vpC vwC cfC CfgR lt_of_blk nd_one alloc_nd isRel_below)
open Addr05 (Adr)
open Tree16 (rightA treeF topF)
set_option maxRecDepth 20000 in
set_option maxHeartbeats 16000000 in
theorem self_any (c : Cfg) (w : World) (A1 A2 A3 : Option Addr) (k1 k2 k3 : Nat) (h : CfgR w w.heap.size c A1 A2 A3 k1 k2 k3) (hn : c.nodes.length ≤ 1099511627776) :
    Calls Tryd.prog 64 #[.agg (cfC c (.slice A1 c.nodes.length k1) (.slice A2 c.vips.length k2) (.slice A3 c.views.length k3))] w fun e w' => e = .returned (.bool (selfB c)) ∧ Below w.heap.size w w' := by
  obtain ⟨X, hX⟩ : ∃ X, selfB c = X := ⟨_, rfl⟩
  have hX1 : ∀ (i : Nat) (n : Nd), c.nodes[i]? = some n → selfN c n = false → X = false := by
    intro i n hi hf
    rw [← hX]
    unfold selfB
    rw [List.all_eq_false]
    exact ⟨n, List.mem_of_getElem? hi, by rw [hf]; decide⟩
  have hX2 : (∀ (i : Nat) (n : Nd), c.nodes[i]? = some n → selfN c n = true) → X = true := by
    intro hf
    rw [← hX]
    unfold selfB
    rw [List.all_eq_true]
    intro n hn
    obtain ⟨i, hi⟩ := List.mem_iff_getElem?.1 hn
    exact hf i n hi
  rw [hX]
  unfold selfN at hX1 hX2
  obtain ⟨n1, hn1⟩ : ∃ n, c.nodes.length = n := ⟨_, rfl⟩
  have p1 := h.nodes
  rw [hn1] at hn p1 ⊢
  obtain ⟨⟨s0v, s0h, s0l⟩, hs0⟩ : ∃ x, c.s0 = x := ⟨_, rfl⟩
  obtain ⟨⟨s1v, s1h, s1l⟩, hs1⟩ : ∃ x, c.s1 = x := ⟨_, rfl⟩
  rw [hs0, hs1] at hX1 hX2
  unfold cfC
  rw [hs0, hs1]
  dsimp only
  obtain ⟨w1, hw1⟩ : ∃ w1, w.alloc (.cells #[.slice A1 n1 k1, .slice A2 c.vips.length k2, .slice A3 c.views.length k3, .int .i64 c.factor, .int .i64 c.domain, .bool s0v, .int .u64 (s0h : Int), .int .u64 (s0l : Int), .bool s1v, .int .u64 (s1h : Int), .int .u64 (s1l : Int)] 30) = w1 := ⟨_, rfl⟩
  have hb1 : Below w.heap.size w w1 := hw1 ▸ (Below.refl _ _).alloc (Nat.le_refl _) _
  have hg1 : w1.heap[w.heap.size]? = some (.cells #[.slice A1 n1 k1, .slice A2 c.vips.length k2, .slice A3 c.views.length k3, .int .i64 c.factor, .int .i64 c.domain, .bool s0v, .int .u64 (s0h : Int), .int .u64 (s0l : Int), .bool s1v, .int .u64 (s1h : Int), .int .u64 (s1l : Int)] 30 (0, 0)) := hw1 ▸ blk_new _ _ _
  have hz1 := lt_of_blk hg1
  have hgc := blk_cell hg1 0
  obtain ⟨z, hz⟩ : ∃ z, w.heap.size = z := ⟨_, rfl⟩
  have p1w := p1.below hb1
  rw [hz] at hb1 hg1 hz1 p1w
  have hBF : Below w.heap.size w w1 := by rw [hz]; exact hb1
  clear h hX p1 hs0 hs1
  replace hb1 := hide hb1
  replace hg1 := hide hg1
  replace p1w := hide p1w
  replace hX1 := hide hX1
  replace hX2 := hide hX2
  replace hBF := hide hBF
  go_enter Tryd.func64, Tryd.ntmps64
  go_upto_region 1 with fail
  clear hw1
  rw [hz] at hgc
  go_wp2_with fail
  clear hgc
  go_loopw [4, 5, 9] (fun _ _ iv wr => ∃ i : Nat, i ≤ n1 ∧ iv = .int .i64 (i : Int) ∧ (∀ (j : Nat) (n : Nd), j < i → c.nodes[j]? = some n → (!decide (n.kind = 4 ∧ (if n.a.v6 = true then (⟨s1v, s1h, s1l⟩ : Adr) else ⟨s0v, s0h, s0l⟩) = zA)) = true) ∧ Below w1.heap.size w1 wr) (fun _ _ iv _ => n1 - (intOf iv).toNat)
  case atStart => exact ⟨0, by omega, rfl, fun j n hj => by omega, Below.refl _ _⟩
  case round =>
    obtain ⟨i, hi, rfl, hno, hB⟩ := hrel
    have hzr := hB.size
    by_cases hin : i < n1
    · have hlt : (i : Int) < (n1 : Int) := by omega
      obtain ⟨b, off, nd, rfl, hbk, hni, hcell⟩ := IsT.at (f := ndC) (size := 7) (fun _ => rfl) (by decide) (p1w.out.below (hB.mono (by omega))) hin
      have wi1 : IntKind.i64.wrap ((i : Int) + 1) = ((i + 1 : Nat) : Int) := by rw [wraps62 _ (by omega) (by omega)]; omega
      have hXi := hX1.out i nd hni
      have hno2 : (!decide (nd.kind = 4 ∧ (if nd.a.v6 = true then (⟨s1v, s1h, s1l⟩ : Adr) else ⟨s0v, s0h, s0l⟩) = zA)) = true → ∀ (j : Nat) (n : Nd), j < i + 1 → c.nodes[j]? = some n → (!decide (n.kind = 4 ∧ (if n.a.v6 = true then (⟨s1v, s1h, s1l⟩ : Adr) else ⟨s0v, s0h, s0l⟩) = zA)) = true := by
        intro he j n hj hd
        by_cases hji : j = i
        · subst hji
          obtain rfl := Option.some.inj (hni.symm.trans hd)
          exact he
        · exact hno j n (by omega) hd
      clear hno hni
      obtain ⟨nm, kd, ab, wt, ⟨v6, hi', lo⟩⟩ := nd
      dsimp only at hXi hno2
      have y0 : wr.cell? ⟨b, off + i * 7, none⟩ = some (.string (str nm)) := hcell 0 _ rfl
      have y1 : wr.cell? ⟨b, off + i * 7 + 1, none⟩ = some (.int .i64 kd) := hcell 1 _ rfl
      have y2 : wr.cell? ⟨b, off + i * 7 + 2, none⟩ = some (.int .i64 ab) := hcell 2 _ rfl
      have y3 : wr.cell? ⟨b, off + i * 7 + 3, none⟩ = some (.int .i64 wt) := hcell 3 _ rfl
      have y4 : wr.cell? ⟨b, off + i * 7 + 4, none⟩ = some (.bool v6) := hcell 4 _ rfl
      have y5 : wr.cell? ⟨b, off + i * 7 + 5, none⟩ = some (.int .u64 (hi' : Int)) := hcell 5 _ rfl
      have y6 : wr.cell? ⟨b, off + i * 7 + 6, none⟩ = some (.int .u64 (lo : Int)) := hcell 6 _ rfl
      clear hcell
      obtain ⟨ek4, hek4⟩ : ∃ b, decide (kd = 4) = b := ⟨_, rfl⟩
      have hek : (kd == 4) = ek4 := by rw [← hek4]; rfl
      obtain ⟨Z, hZ⟩ : ∃ b, decide ((if v6 = true then (⟨s1v, s1h, s1l⟩ : Adr) else ⟨s0v, s0h, s0l⟩) = zA) = b := ⟨_, rfl⟩
      obtain ⟨B, hBB⟩ : ∃ b, (ek4 && Z) = b := ⟨_, rfl⟩
      have hd4 : decide (kd = 4 ∧ (if v6 = true then (⟨s1v, s1h, s1l⟩ : Adr) else ⟨s0v, s0h, s0l⟩) = zA) = B := by rw [Bool.decide_and, hek4, hZ, hBB]
      rw [hd4] at hXi hno2
      clear hd4 hek4
      replace hXi := hide hXi
      replace hno2 := hide hno2
      replace hB := hide hB
      go_upto_region 3 with fail
      apply wp_region_lit
      iterate 2 (refine wpList_plain rfl fun K hK => ?_; go_simp; refine hK _ _ ?_; clear hK K)
      refine wpl_new rfl rfl 72 _ (alloc_nd _ rfl) 4 rfl (.tmp 12) rfl _ (fun _ => rfl) (fun _ => rfl) rfl (by kernel_rfl) (nd_one (str nm) kd ab wt v6 (hi' : Int) (lo : Int)) ?_
      intro w4 hg4 hb4 hz4
      refine wpList_nil ?_
      have hB4 := hB.out.trans (hb4.mono hzr)
      have hg14 := blk_below hB4 hz1 hg1.out
      have d1 := blk_cell hg4 1
      have d4 := blk_cell hg4 4
      have e5 := blk_cell hg14 5
      have e6 := blk_cell hg14 6
      have e7 := blk_cell hg14 7
      have e8 := blk_cell hg14 8
      have e9 := blk_cell hg14 9
      have e10 := blk_cell hg14 10
      clear y0 y1 y2 y3 y4 y5 y6 hb4 hg4 hg14 hB
      replace hB4 := hide hB4
      cases v6
      · go_upto_region 7 with fail
        go_cut [26] (fun bv wx => bv = .bool B ∧ w4 = wx)
        case first =>
          clear hXi hno2
          cases ek4
          · obtain rfl : false = B := hBB
            go_wp2_with fail
            go_meet
            exact ⟨rfl, rfl⟩
          · obtain rfl : Z = B := hBB
            cases Z
            · have hz0 := of_decide_eq_false hZ
              rw [if_neg (by decide)] at hz0
              clear hZ
              cases s0v
              · by_cases hh : s0h = 0
                · subst hh
                  have hl0 : ¬ (s0l : Int) = 0 := fun h => hz0 (by rw [show s0l = 0 by omega])
                  clear hz0
                  go_wp2_with fail
                  go_meet
                  exact ⟨rfl, rfl⟩
                · have hh0 : ¬ (s0h : Int) = 0 := by omega
                  clear hz0
                  go_wp2_with fail
                  go_meet
                  exact ⟨rfl, rfl⟩
              · clear hz0
                go_wp2_with fail
                go_meet
                exact ⟨rfl, rfl⟩
            · have hz0 := of_decide_eq_true hZ
              rw [if_neg (by decide)] at hz0
              obtain ⟨rfl, rfl, rfl⟩ : s0v = false ∧ s0h = 0 ∧ s0l = 0 := by cases hz0; exact ⟨rfl, rfl, rfl⟩
              clear hZ hz0
              go_wp2_with fail
              go_meet
              exact ⟨rfl, rfl⟩
        case rest =>
        obtain ⟨rfl, rfl⟩ := hcut
        clear hZ hBB hek d1 d4 e5 e6 e7 e8 e9 e10
        cases B
        · have hno3 := hno2.out rfl
          clear hXi hno2
          replace hno3 := hide hno3
          go_wp2_with fail
          exact ⟨⟨i + 1, by omega, by first | rfl | go_num, hno3.out, hB4.out⟩, by simp only [intOf]; omega⟩
        · obtain rfl := hXi.out rfl
          clear hXi hno2
          go_wp2_with fail
          go_ret
          exact ⟨rfl, hb1.out.trans (hB4.out.mono (by omega))⟩
      · go_upto_region 7 with fail
        go_cut [26] (fun bv wx => bv = .bool B ∧ w4 = wx)
        case first =>
          clear hXi hno2
          cases ek4
          · obtain rfl : false = B := hBB
            go_wp2_with fail
            go_meet
            exact ⟨rfl, rfl⟩
          · obtain rfl : Z = B := hBB
            cases Z
            · have hz0 := of_decide_eq_false hZ
              rw [if_pos rfl] at hz0
              clear hZ
              cases s1v
              · by_cases hh : s1h = 0
                · subst hh
                  have hl0 : ¬ (s1l : Int) = 0 := fun h => hz0 (by rw [show s1l = 0 by omega])
                  clear hz0
                  go_wp2_with fail
                  go_meet
                  exact ⟨rfl, rfl⟩
                · have hh0 : ¬ (s1h : Int) = 0 := by omega
                  clear hz0
                  go_wp2_with fail
                  go_meet
                  exact ⟨rfl, rfl⟩
              · clear hz0
                go_wp2_with fail
                go_meet
                exact ⟨rfl, rfl⟩
            · have hz0 := of_decide_eq_true hZ
              rw [if_pos rfl] at hz0
              obtain ⟨rfl, rfl, rfl⟩ : s1v = false ∧ s1h = 0 ∧ s1l = 0 := by cases hz0; exact ⟨rfl, rfl, rfl⟩
              clear hZ hz0
              go_wp2_with fail
              go_meet
              exact ⟨rfl, rfl⟩
        case rest =>
        obtain ⟨rfl, rfl⟩ := hcut
        clear hZ hBB hek d1 d4 e5 e6 e7 e8 e9 e10
        cases B
        · have hno3 := hno2.out rfl
          clear hXi hno2
          replace hno3 := hide hno3
          go_wp2_with fail
          exact ⟨⟨i + 1, by omega, by first | rfl | go_num, hno3.out, hB4.out⟩, by simp only [intOf]; omega⟩
        · obtain rfl := hXi.out rfl
          clear hXi hno2
          go_wp2_with fail
          go_ret
          exact ⟨rfl, hb1.out.trans (hB4.out.mono (by omega))⟩
    · obtain rfl : i = n1 := by omega
      have hlt : ((i : Int) < (i : Int)) = False := by simp
      have hXn := hX2.out (fun j n hd => by
        by_cases hj : j < i
        · exact hno j n hj hd
        · have h5 := (List.getElem?_eq_some_iff.1 hd).1
          have h6 := p1w.out.1
          omega)
      clear hno
      replace hXn := hide hXn
      replace hB := hide hB
      go_wp2_with fail
      go_ret
      exact ⟨by rw [hXn.out]; rfl, hBF.out.trans (hB.out.mono (by omega))⟩
end Val19
end Go.Proofs.YtcpokkkdmenmgaaDoor
/- valid: plain: what stands beside a configuration's lists. No condition. -/
namespace Go.Proofs.YtcpokkkdmenmgaaDoor
open Go.RowKit Go.ChangeShapes Go.WideShapes Go.ChangeAt Go.Deep
namespace Val19
open Conf18 (Nd Vp Vw Cfg zA ndC vpC vwC cfC CfgR lt_of_blk isRel_below)
open Addr05 (Adr alloc_adr adr_one)
open Tree16 (rightA treeF topF rightA_is)
theorem plainF_tests (c : Cfg) : plainF c = if (decide (c.factor < 100) || decide (1000 < c.factor) || ((c.domain != 2) && (c.domain != 3))) = true then 5
    else if (c.s0.v6 || !rightA c.s0 || (!decide (c.s1 = zA) && !c.s1.v6)) = true then 18 else if (decide ((64 : Int) < (c.vips.length : Int)) || decide ((64 : Int) < (c.views.length : Int))) = true then 6 else 0 := by
  unfold plainF
  have h1 : (c.factor < 100 ∨ 1000 < c.factor ∨ (c.domain ≠ 2 ∧ c.domain ≠ 3)) ↔ (decide (c.factor < 100) || decide (1000 < c.factor) || ((c.domain != 2) && (c.domain != 3))) = true := by simp [or_assoc]
  have h2 : (c.s0.v6 = true ∨ rightA c.s0 = false ∨ (c.s1 ≠ zA ∧ c.s1.v6 = false)) ↔ (c.s0.v6 || !rightA c.s0 || (!decide (c.s1 = zA) && !c.s1.v6)) = true := by simp [or_assoc]
  have h3 : (64 < c.vips.length ∨ 64 < c.views.length) ↔ (decide ((64 : Int) < (c.vips.length : Int)) || decide ((64 : Int) < (c.views.length : Int))) = true := by simp; omega
  simp only [h1, h2, h3]
set_option maxRecDepth 20000 in
set_option maxHeartbeats 16000000 in
theorem plain_any (c : Cfg) (w : World) (A1 A2 A3 : Option Addr) (k1 k2 k3 : Nat) :
    Calls Tryd.prog 63 #[.agg (cfC c (.slice A1 c.nodes.length k1) (.slice A2 c.vips.length k2) (.slice A3 c.views.length k3))] w fun e w' => e = .returned (.int .i64 (plainF c : Int)) ∧ Below w.heap.size w w' := by
  obtain ⟨X, hX⟩ : ∃ X, plainF c = X := ⟨_, rfl⟩
  rw [hX]
  rw [plainF_tests] at hX
  obtain ⟨n1, hn1⟩ : ∃ n, c.nodes.length = n := ⟨_, rfl⟩
  obtain ⟨n2, hn2⟩ : ∃ n, c.vips.length = n := ⟨_, rfl⟩
  obtain ⟨n3, hn3⟩ : ∃ n, c.views.length = n := ⟨_, rfl⟩
  obtain ⟨F, hF⟩ : ∃ x, c.factor = x := ⟨_, rfl⟩
  obtain ⟨D, hD⟩ : ∃ x, c.domain = x := ⟨_, rfl⟩
  obtain ⟨⟨s0v, s0h, s0l⟩, hs0⟩ : ∃ x, c.s0 = x := ⟨_, rfl⟩
  obtain ⟨⟨s1v, s1h, s1l⟩, hs1⟩ : ∃ x, c.s1 = x := ⟨_, rfl⟩
  unfold cfC
  rw [hn1, hn2, hn3, hF, hD, hs0, hs1]
  rw [hn2, hn3, hF, hD, hs0, hs1] at hX
  dsimp only at hX ⊢
  clear hn1 hn2 hn3 hF hD hs0 hs1
  obtain ⟨w1, hw1⟩ : ∃ w1, w.alloc (.cells #[.slice A1 n1 k1, .slice A2 n2 k2, .slice A3 n3 k3, .int .i64 F, .int .i64 D, .bool s0v, .int .u64 (s0h : Int), .int .u64 (s0l : Int), .bool s1v, .int .u64 (s1h : Int), .int .u64 (s1l : Int)] 30) = w1 := ⟨_, rfl⟩
  have hb1 : Below w.heap.size w w1 := hw1 ▸ (Below.refl _ _).alloc (Nat.le_refl _) _
  have hg1 : w1.heap[w.heap.size]? = some (.cells #[.slice A1 n1 k1, .slice A2 n2 k2, .slice A3 n3 k3, .int .i64 F, .int .i64 D, .bool s0v, .int .u64 (s0h : Int), .int .u64 (s0l : Int), .bool s1v, .int .u64 (s1h : Int), .int .u64 (s1l : Int)] 30 (0, 0)) := hw1 ▸ blk_new _ _ _
  have hz1 := lt_of_blk hg1
  have qA := fun w => Addr05.Right_any s0v s0h s0l w
  rw [rightA_is ⟨s0v, s0h, s0l⟩] at qA
  replace hb1 := hide hb1
  replace hg1 := hide hg1
  replace hX := hide hX
  replace qA := hide qA
  go_enter Tryd.func63, Tryd.ntmps63
  go_upto_region 1 with fail
  clear hw1
  apply wp_region_lit
  iterate 1 (refine wpList_plain rfl fun K hK => ?_; go_simp; refine hK _ _ ?_; clear hK K)
  refine wpl_new rfl rfl 27 _ (alloc_adr _ rfl) 3 rfl (.tmp 4) rfl _ (fun _ => rfl) (fun _ => rfl) rfl (by kernel_rfl) (adr_one false 0 0) ?_
  intro w2 hg2 hb2 hz2
  refine wpList_nil ?_
  go_simp
  have hB := hb1.out.trans (hb2.mono (by omega))
  have hgc := blk_below hb2 hz1 hg1.out
  have z2 := lt_of_blk hgc
  have e1 := blk_cell hgc 1
  have e2 := blk_cell hgc 2
  have e3 := blk_cell hgc 3
  have e4 := blk_cell hgc 4
  have e5 := blk_cell hgc 5
  have e6 := blk_cell hgc 6
  have e7 := blk_cell hgc 7
  obtain ⟨bf1, hbf1⟩ : ∃ b, decide (F < 100) = b := ⟨_, rfl⟩
  obtain ⟨bf2, hbf2⟩ : ∃ b, decide (1000 < F) = b := ⟨_, rfl⟩
  obtain ⟨d2, hd2⟩ : ∃ b, (D != 2) = b := ⟨_, rfl⟩
  obtain ⟨d3, hd3⟩ : ∃ b, (D != 3) = b := ⟨_, rfl⟩
  obtain ⟨P1, hP1⟩ : ∃ b, (bf1 || bf2 || (d2 && d3)) = b := ⟨_, rfl⟩
  have hX1 := hX.out
  rw [hbf1, hbf2, hd2, hd3, hP1] at hX1
  clear hX hb1 hb2 hg1
  have hs2 : w.heap.size < w1.heap.size := hz1
  replace hX1 := hide hX1
  replace hB := hide hB
  replace hgc := hide hgc
  replace hg2 := hide hg2
  go_upto_region 2 with fail
  go_cut [5] (fun bv wx => bv = .bool P1 ∧ w2 = wx)
  case first =>
    clear hX1 qA e1 e2 e5 e6 e7
    cases bf1
    · cases bf2
      · cases d2
        · obtain rfl : false = P1 := hP1
          go_wp2_with fail
          go_meet
          exact ⟨rfl, rfl⟩
        · obtain rfl : d3 = P1 := hP1
          go_wp2_with fail
          go_meet
          exact ⟨rfl, rfl⟩
      · obtain rfl : true = P1 := hP1
        go_wp2_with fail
        go_meet
        exact ⟨rfl, rfl⟩
    · obtain rfl : true = P1 := by rw [← hP1]; rfl
      go_wp2_with fail
      go_meet
      exact ⟨rfl, rfl⟩
  case rest =>
  obtain ⟨rfl, rfl⟩ := hcut
  have hX2 := hX1.out
  clear hX1 hP1 hbf1 hbf2 hd2 hd3 e3 e4
  cases P1
  case true =>
    obtain rfl : 5 = X := hX2
    go_wp2_with fail
    go_ret
    exact ⟨rfl, hB.out⟩
  case false =>
  rw [if_neg (by decide)] at hX2
  obtain ⟨R0, hR0⟩ : ∃ b, rightA ⟨s0v, s0h, s0l⟩ = b := ⟨_, rfl⟩
  obtain ⟨Z, hZ⟩ : ∃ b, decide ((⟨s1v, s1h, s1l⟩ : Adr) = zA) = b := ⟨_, rfl⟩
  obtain ⟨P2, hP2⟩ : ∃ b, (s0v || !R0 || (!Z && !s1v)) = b := ⟨_, rfl⟩
  have q := qA.out w2
  rw [hR0] at q hX2
  rw [hZ, hP2] at hX2
  clear qA hR0
  replace q := hide q
  replace hX2 := hide hX2
  have hgz := hg2
  go_upto_region 4 with fail
  go_cut [24] (fun bv wx => bv = .bool P2 ∧ Below w2.heap.size w2 wx)
  case first =>
    clear hX2 e1 e2
    cases s0v
    case true =>
      obtain rfl : true = P2 := by rw [← hP2]; rfl
      go_wp2_with fail
      go_meet
      exact ⟨rfl, Below.refl _ _⟩
    case false =>
    go_wp2_with fail
    refine (q.out).mono ?_
    rintro e w3 ⟨rfl, hb3⟩
    have hg3 := blk_below hb3 z2 hgc.out
    have hgz3 := blk_below hb3 hz2 hg2.out
    have a8 := blk_cell hg3 8
    have a9 := blk_cell hg3 9
    have a10 := blk_cell hg3 10
    have z0 := blk_cell hgz3 0
    have z1 := blk_cell hgz3 1
    have z2' := blk_cell hgz3 2
    clear q hg3 hgz3 e5 e6 e7
    replace hb3 := hide hb3
    cases R0
    · obtain rfl : true = P2 := hP2
      go_wp2_with fail
      go_meet
      exact ⟨rfl, hb3.out⟩
    · cases Z
      · obtain rfl : (!s1v) = P2 := by rw [← hP2]; simp
        have hz0 := of_decide_eq_false hZ
        clear hZ hP2
        cases s1v
        · by_cases hh : s1h = 0
          · subst hh
            have hl0 : ¬ (s1l : Int) = 0 := fun h => hz0 (by rw [show s1l = 0 by omega])
            clear hz0
            go_wp2_with fail
            go_meet
            exact ⟨rfl, hb3.out⟩
          · have hh0 : ¬ (s1h : Int) = 0 := by omega
            clear hz0
            go_wp2_with fail
            go_meet
            exact ⟨rfl, hb3.out⟩
        · clear hz0
          go_wp2_with fail
          go_meet
          exact ⟨rfl, hb3.out⟩
      · obtain rfl : false = P2 := hP2
        have hz0 := of_decide_eq_true hZ
        obtain ⟨rfl, rfl, rfl⟩ : s1v = false ∧ s1h = 0 ∧ s1l = 0 := by cases hz0; exact ⟨rfl, rfl, rfl⟩
        clear hZ hz0
        go_wp2_with fail
        go_meet
        exact ⟨rfl, hb3.out⟩
  case rest =>
  obtain ⟨rfl, hb3⟩ := hcut
  have hX3 := hX2.out
  have hg3 := blk_below hb3 z2 hgc.out
  have e1 := blk_cell hg3 1
  have e2 := blk_cell hg3 2
  have hB3 := hB.out.trans (hb3.mono (by omega))
  clear hX2 hP2 hZ e5 e6 e7 hB hgc hg2 hgz hb3 q hg3
  replace hB3 := hide hB3
  cases P2
  case true =>
    obtain rfl : 18 = X := hX3
    go_wp2_with fail
    go_ret
    exact ⟨rfl, hB3.out⟩
  case false =>
  rw [if_neg (by decide)] at hX3
  obtain ⟨v1, hv1⟩ : ∃ b, decide ((64 : Int) < (n2 : Int)) = b := ⟨_, rfl⟩
  obtain ⟨v2, hv2⟩ : ∃ b, decide ((64 : Int) < (n3 : Int)) = b := ⟨_, rfl⟩
  rw [hv1, hv2] at hX3
  replace hX3 := hide hX3
  go_upto_region 6 with fail
  cases v1
  · cases v2
    · obtain rfl : 0 = X := hX3.out
      clear hX3
      go_wp2_with fail
      go_ret
      exact ⟨rfl, hB3.out⟩
    · obtain rfl : 6 = X := hX3.out
      clear hX3
      go_wp2_with fail
      go_ret
      exact ⟨rfl, hB3.out⟩
  · obtain rfl : 6 = X := hX3.out
    clear hX3
    go_wp2_with fail
    go_ret
    exact ⟨rfl, hB3.out⟩
end Val19
end Go.Proofs.YtcpokkkdmenmgaaDoor
/- conf, the law: awake. Condition: the cell of bytealg.MaxLen. -/
namespace Go.Proofs.YtcpokkkdmenmgaaDoor
open Go.RowKit Go.ChangeShapes Go.WideShapes Go.ChangeAt Go.Deep
namespace Conf18
open Addr05
theorem alloc_cf (o : Oper) (h : o.op = .alloc 30) (ρ : Operand → Value) (w : World) : (execOp ρ o).run Tryd.prog w = .ok (.value (.pointer (some ⟨w.heap.size, 0, none⟩))) (w.alloc (.cells #[.slice none 0 0, .slice none 0 0, .slice none 0 0, .int .i64 0, .int .i64 0, .bool false, .int .u64 0, .int .u64 0, .bool false, .int .u64 0, .int .u64 0] 30)) := by
  obtain ⟨d, op, t, ps, af, g⟩ := o
  dsimp only at h
  subst h
  kernel_rfl
theorem exA_err : confF exA = .error (1, 5) := by
  have h := exA_is
  rcases hc : confF exA with p | c
  · rw [hc] at h
    obtain ⟨a, b⟩ := p
    obtain ⟨h1, h2⟩ := of_decide_eq_true h
    dsimp only at h1 h2
    rw [h1, h2]
  · rw [hc] at h; cases h
theorem exB_ok : ∃ c, confF exB = .ok c ∧ c.nodes.length = 4 ∧ (∃ nd, c.nodes[3]? = some nd ∧ nd.above = 2) ∧ c.factor = 140 := by
  have h := exB_is
  rcases hc : confF exB with p | c
  · rw [hc] at h; cases h
  · rw [hc] at h
    obtain ⟨h1, h2, h3⟩ := of_decide_eq_true h
    refine ⟨c, rfl, h1, ⟨c.nodes[3], List.getElem?_eq_getElem (by omega), ?_⟩, h3⟩
    rw [List.getD_eq_getElem?_getD, List.getElem?_eq_getElem (by omega)] at h2
    exact h2
set_option maxRecDepth 20000 in
set_option maxHeartbeats 8000000 in
theorem cawake_any (w : World) (hm : MaxAt w) : Calls Tryd.prog 8 #[] w fun e w' => e = .returned (.bool true) ∧ Below w.heap.size w w' := by
  have qa : Calls Tryd.prog 11 #[.string ⟨#[102, 97, 99, 116, 111, 114, 32, 57, 57]⟩] w fun e w' => e = .returned (.tuple #[.agg #[.slice none 0 0, .slice none 0 0, .slice none 0 0, .int .i64 0, .int .i64 0, .bool false, .int .u64 0, .int .u64 0, .bool false, .int .u64 0, .int .u64 0], .int .i64 1, .int .i64 5]) ∧ Below w.heap.size w w' := by
    refine (confParse_any exA (by decide) w hm).mono ?_
    rintro e w' ⟨hb, ⟨p, hp, he⟩ | ⟨c, v, hp, -⟩⟩
    · rw [exA_err] at hp
      cases hp
      exact ⟨he, hb⟩
    · rw [exA_err] at hp; cases hp
  obtain ⟨c, hc, hn4, ⟨nd, hnd, hab⟩, hf⟩ := exB_ok
  have qb : ∀ w', MaxAt w' → Calls Tryd.prog 11 #[.string ⟨#[108, 101, 118, 101, 108, 32, 97, 10, 122, 111, 110, 101, 32, 98, 32, 97, 10, 114, 97, 99, 107, 32, 99, 32, 98, 32, 55, 10, 104, 111, 115, 116, 32, 100, 32, 99, 32, 53, 32, 49, 46, 50, 46, 51, 46, 52]⟩] w' fun e w2 => (∃ A1 A2 A3 k1 k2 k3, e = .returned (.tuple #[.agg (cfC c (.slice A1 c.nodes.length k1) (.slice A2 c.vips.length k2) (.slice A3 c.views.length k3)), .int .i64 0, .int .i64 0]) ∧ CfgR w2 w2.heap.size c A1 A2 A3 k1 k2 k3) ∧ Below w'.heap.size w' w2 := fun w' hm' => by
    refine (confParse_any exB (by decide) w' hm').mono ?_
    rintro e w2 ⟨hb, ⟨p, hp, he⟩ | ⟨c', v, hp, he, hv, -⟩⟩
    · rw [hc] at hp; cases hp
    · rw [hc] at hp
      cases hp
      obtain ⟨A1, A2, A3, k1, k2, k3, rfl, hR⟩ := hv.open
      exact ⟨⟨A1, A2, A3, k1, k2, k3, he, hR⟩, hb⟩
  clear hc
  replace qa := hide qa
  replace qb := hide qb
  replace hm := hide hm
  replace hnd := hide hnd
  go_enter Tryd.func8, Tryd.ntmps8
  go_upto_region 1 with fail
  apply wp_region_lit
  refine wpList_plain rfl fun K hK => ?_
  go_simp
  refine (qa.out).mono ?_
  rintro e w1 ⟨rfl, hb1⟩
  go_simp
  refine hK _ _ ?_
  clear hK K
  iterate 4 (refine wpList_plain rfl fun K hK => ?_; go_simp; refine hK _ _ ?_; clear hK K)
  refine wpl_new rfl rfl 30 _ (alloc_cf _ rfl) 1 rfl (.tmp 9) rfl _ (fun _ => rfl) (fun _ => rfl) rfl (by kernel_rfl) (cf_one _ _ _ rfl rfl rfl 0 0 false 0 0 false 0 0) ?_
  intro w2 hg2 hb2 hz2
  iterate 2 (refine wpList_plain rfl fun K hK => ?_; go_simp; refine hK _ _ ?_; clear hK K)
  refine wpList_nil ?_
  go_simp
  have hbw := hb1.trans (hb2.mono hb1.size)
  have hm2 := hm.out.below hbw
  have qb2 := qb.out w2 hm2
  have hz1 := hbw.size
  clear hg2 hb1 hb2 qa qb
  replace hbw := hide hbw
  replace qb2 := hide qb2
  go_upto_region 2 with fail
  apply wp_region_lit
  refine wpList_plain rfl fun K hK => ?_
  go_simp
  refine (qb2.out).mono ?_
  rintro e w3 ⟨⟨A1, A2, A3, k1, k2, k3, rfl, hR⟩, hb3⟩
  go_simp
  refine hK _ _ ?_
  clear hK K
  iterate 4 (refine wpList_plain rfl fun K hK => ?_; go_simp; refine hK _ _ ?_; clear hK K)
  refine wpl_new rfl rfl 30 _ (alloc_cf _ rfl) 4 rfl (.tmp 14) rfl _ (fun _ => rfl) (fun _ => rfl) rfl (by kernel_rfl) (cf_one _ _ _ rfl rfl rfl _ _ _ _ _ _ _ _) ?_
  intro w4 hg4 hb4 hz4
  iterate 2 (refine wpList_plain rfl fun K hK => ?_; go_simp; refine hK _ _ ?_; clear hK K)
  refine wpList_nil ?_
  go_simp
  have hR4 := hR.on hb4
  have hz3 := hb3.size
  have hbe := hbw.out.trans ((hb3.mono (by omega)).trans (hb4.mono (by omega)))
  obtain ⟨b, off, nd', hA1, hbk, hni, hcell⟩ := IsT.at (f := ndC) (size := 7) (i := 3) (fun _ => rfl) (by decide) hR4.nodes (by omega)
  obtain rfl := Option.some.inj (hnd.out.symm.trans hni)
  have kA : w4.cell? ⟨b, off + 21 + 2, none⟩ = some (.int .i64 nd.above) := hcell 2 _ rfl
  have kA2 : w4.cell? ⟨b, off + 23, none⟩ = some (.int .i64 nd.above) := hcell 2 _ rfl
  rw [hab] at kA kA2
  subst hA1
  have g0 : w4.cell? ⟨w3.heap.size, 0, none⟩ = some (.slice (some ⟨b, off, none⟩) 4 k1) := blk_cell hg4 0
  have g3 : w4.cell? ⟨w3.heap.size, 3, none⟩ = some (.int .i64 140) := by
    rw [← hf]
    exact blk_cell hg4 3
  clear hcell hni hg4 hb3 hb4 hR hR4
  replace hbe := hide hbe
  go_wp2_with fail
  go_ret
  exact ⟨rfl, hbe.out⟩
end Conf18
end Go.Proofs.YtcpokkkdmenmgaaDoor
/- valid: copyOf: a configuration of its own. Condition: fewer than 4096 of each list. -/
namespace Go.Proofs.YtcpokkkdmenmgaaDoor
open Go.RowKit Go.ChangeShapes Go.WideShapes Go.ChangeAt Go.Deep
namespace Val19
open Conf18 (Nd Vp Vw Cfg zA ndC vpC vwC cfC CfgR CfgV lt_of_blk isRel_below info_nd info_vp info_vw ndC_one vpC_one vwC_one row_set alloc_cf cf_one)
open Addr05 (Adr)
theorem flat_one {α : Type} (f : α → List Value) (h : ∀ x, ∀ u ∈ f x, u.oneCell' = true) (l : List α) : ∀ u ∈ (l.map f).flatten, u.oneCell' = true := by
  intro u hu
  obtain ⟨r, hr, hu⟩ := List.mem_flatten.1 hu
  obtain ⟨x, -, rfl⟩ := List.mem_map.1 hr
  exact h x u hu
set_option maxRecDepth 20000 in
set_option maxHeartbeats 16000000 in
theorem copyOf_any (c : Cfg) (hs : c.small 4096) (w : World) (A1 A2 A3 : Option Addr) (k1 k2 k3 : Nat) (h : CfgR w w.heap.size c A1 A2 A3 k1 k2 k3) :
    Calls Tryd.prog 68 #[.agg (cfC c (.slice A1 c.nodes.length k1) (.slice A2 c.vips.length k2) (.slice A3 c.views.length k3))] w fun e w' => ∃ v, e = .returned (.agg v) ∧ CfgV w' w.heap.size c v ∧ Below w.heap.size w w' := by
  obtain ⟨hs1, hs2, hs3⟩ := hs
  obtain ⟨p1, p2, p3⟩ := h
  unfold cfC
  obtain ⟨w1, hw1⟩ : ∃ w1, w.alloc (.cells #[.slice A1 c.nodes.length k1, .slice A2 c.vips.length k2, .slice A3 c.views.length k3, .int .i64 c.factor, .int .i64 c.domain, .bool c.s0.v6, .int .u64 (c.s0.hi : Int), .int .u64 (c.s0.lo : Int), .bool c.s1.v6, .int .u64 (c.s1.hi : Int), .int .u64 (c.s1.lo : Int)] 30) = w1 := ⟨_, rfl⟩
  have hb1 : Below w.heap.size w w1 := hw1 ▸ (Below.refl _ _).alloc (Nat.le_refl _) _
  have hg1 : w1.heap[w.heap.size]? = some (.cells #[.slice A1 c.nodes.length k1, .slice A2 c.vips.length k2, .slice A3 c.views.length k3, .int .i64 c.factor, .int .i64 c.domain, .bool c.s0.v6, .int .u64 (c.s0.hi : Int), .int .u64 (c.s0.lo : Int), .bool c.s1.v6, .int .u64 (c.s1.hi : Int), .int .u64 (c.s1.lo : Int)] 30 (0, 0)) := hw1 ▸ blk_new _ _ _
  have hz1 := lt_of_blk hg1
  obtain ⟨w2, hw2⟩ : ∃ w2, w1.alloc (.cells #[.slice none 0 0, .slice none 0 0, .slice none 0 0, .int .i64 0, .int .i64 0, .bool false, .int .u64 0, .int .u64 0, .bool false, .int .u64 0, .int .u64 0] 30) = w2 := ⟨_, rfl⟩
  have hb2 : Below w1.heap.size w1 w2 := hw2 ▸ (Below.refl _ _).alloc (Nat.le_refl _) _
  have hg2 : w2.heap[w1.heap.size]? = some (.cells #[.slice none 0 0, .slice none 0 0, .slice none 0 0, .int .i64 0, .int .i64 0, .bool false, .int .u64 0, .int .u64 0, .bool false, .int .u64 0, .int .u64 0] 30 (0, 0)) := hw2 ▸ blk_new _ _ _
  have hz2 := lt_of_blk hg2
  have hgA := blk_below hb2 hz1 hg1
  have hB := hb1.trans (hb2.mono hb1.size)
  obtain ⟨z, hz⟩ : ∃ z, w.heap.size = z := ⟨_, rfl⟩
  obtain ⟨z2, hz2'⟩ : ∃ z, w1.heap.size = z := ⟨_, rfl⟩
  rw [hz] at hgA hz1
  rw [hz2'] at hg2 hz1 hz2
  obtain ⟨i1, hi1, hy1, hsz1, hbt1⟩ := info_parts info_nd
  obtain ⟨i2, hi2, hy2, hsz2, hbt2⟩ := info_parts info_vp
  obtain ⟨i3, hi3, hy3, hsz3, hbt3⟩ := info_parts info_vw
  clear hb1 hb2 hg1
  replace hB := hide hB
  replace hgA := hide hgA
  replace hg2 := hide hg2
  replace p1 := hide p1
  replace p2 := hide p2
  replace p3 := hide p3
  go_enter Tryd.func68, Tryd.ntmps68
  go_upto_region 1 with fail
  clear hw1 hw2
  have hc := blk_cell hgA.out 0
  apply wp_region_lit
  iterate 2 (refine wpList_plain rfl fun K hK => ?_; go_simp; refine hK _ _ ?_; clear hK K)
  clear hc
  refine wpl_append _ rfl (.const (.slice none 0 0)) (.tmp 4) 22 rfl w.heap.size 72 i1 _ 7 64 Tryd.underlying22 hi1 hy1 hsz1 hbt1 rfl (by decide) (.slice none 0 0) 0 [] rfl (World.ownsRow_nil _ _ _ _) w.heap.size A1 c.nodes.length k1 _ rfl (p1.out.below hB.out).2 (flat_one ndC ndC_one _) (by unfold maxLen; omega) (by omega) hB.out.size fun v w3 q1 q2 q3 => ?_
  rw [Nat.zero_add, List.nil_append] at q1
  obtain ⟨B1, j1, hv, -, -, -⟩ := own_isv q1
  subst hv
  have hgA3 := (q2.block z (lt_of_blk hgA.out) (by intro e; cases e)).trans hgA.out
  have hg23 := (q2.block z2 (lt_of_blk hg2.out) (by intro e; cases e)).trans hg2.out
  have hB3 := hB.out.trans (below_of_grown q2 hB.out.size (fun k hk => by cases hk))
  clear q2 q3
  have hc := blk_cell hgA3 0
  have hf := blk_free hgA3 0
  obtain ⟨wb0, hwb⟩ : ∃ w4, w3.setCell ⟨z, 0, none⟩ (.slice B1 c.nodes.length j1) = w4 := ⟨_, rfl⟩
  have hgAb0 := hwb ▸ blk_set hgA3 0 (.slice B1 c.nodes.length j1)
  have hg2b0 : wb0.heap[z2]? = some (.cells #[.slice none 0 0, .slice none 0 0, .slice none 0 0, .int .i64 0, .int .i64 0, .bool false, .int .u64 0, .int .u64 0, .bool false, .int .u64 0, .int .u64 0] 30 (0, 0)) := by
    obtain ⟨wq, g1, -, g3⟩ := store_cell hgA3 0 (.slice B1 c.nodes.length j1)
    rw [← hwb, g1]
    exact grown_other g3 (lt_of_blk hg23) (by omega) hg23
  have hBb0 : Below w.heap.size w wb0 := hwb ▸ hB3.setCell (p := ⟨z, 0, none⟩) (by dsimp only; omega) _
  have hn0 := hwb ▸ row_set q1 hgA3 (by decide) 0 (.slice B1 c.nodes.length j1)
  clear q1 hg23 hB3 hB hgA hg2
  have ho0 := hide hn0
  clear hn0
  replace hgAb0 := hide hgAb0
  replace hg2b0 := hide hg2b0
  replace hBb0 := hide hBb0
  iterate 2 (refine wpList_plain rfl fun K hK => ?_; go_simp; refine hK _ _ ?_; clear hK K)
  refine wpList_nil ?_
  go_simp
  clear hc hf hwb hgA3
  go_upto_region 2 with fail
  have hc := blk_cell hgAb0.out 1
  apply wp_region_lit
  iterate 2 (refine wpList_plain rfl fun K hK => ?_; go_simp; refine hK _ _ ?_; clear hK K)
  clear hc
  refine wpl_append _ rfl (.const (.slice none 0 0)) (.tmp 8) 23 rfl w.heap.size 77 i2 _ 7 56 Tryd.underlying23 hi2 hy2 hsz2 hbt2 rfl (by decide) (.slice none 0 0) 0 [] rfl (World.ownsRow_nil _ _ _ _) w.heap.size A2 c.vips.length k2 _ rfl (p2.out.below hBb0.out).2 (flat_one vpC vpC_one _) (by unfold maxLen; omega) (by omega) hBb0.out.size fun v w3 q1 q2 q3 => ?_
  rw [Nat.zero_add, List.nil_append] at q1
  obtain ⟨B2, j2, hv, -, -, -⟩ := own_isv q1
  subst hv
  have hgA3 := (q2.block z (lt_of_blk hgAb0.out) (by intro e; cases e)).trans hgAb0.out
  have hg23 := (q2.block z2 (lt_of_blk hg2b0.out) (by intro e; cases e)).trans hg2b0.out
  have hB3 := hBb0.out.trans (below_of_grown q2 hBb0.out.size (fun k hk => by cases hk))
  have ho03 := World.ownsRow.kept ho0.out q2 (by cases B1 with | none => exact .inl rfl | some a => exact .inr (by intro e; cases e))
  clear q2 q3
  have hc := blk_cell hgA3 1
  have hf := blk_free hgA3 1
  obtain ⟨wb1, hwb⟩ : ∃ w4, w3.setCell ⟨z, 1, none⟩ (.slice B2 c.vips.length j2) = w4 := ⟨_, rfl⟩
  have hgAb1 := hwb ▸ blk_set hgA3 1 (.slice B2 c.vips.length j2)
  have hg2b1 : wb1.heap[z2]? = some (.cells #[.slice none 0 0, .slice none 0 0, .slice none 0 0, .int .i64 0, .int .i64 0, .bool false, .int .u64 0, .int .u64 0, .bool false, .int .u64 0, .int .u64 0] 30 (0, 0)) := by
    obtain ⟨wq, g1, -, g3⟩ := store_cell hgA3 1 (.slice B2 c.vips.length j2)
    rw [← hwb, g1]
    exact grown_other g3 (lt_of_blk hg23) (by omega) hg23
  have hBb1 : Below w.heap.size w wb1 := hwb ▸ hB3.setCell (p := ⟨z, 1, none⟩) (by dsimp only; omega) _
  have hn1 := hwb ▸ row_set q1 hgA3 (by decide) 1 (.slice B2 c.vips.length j2)
  have hn0 := hwb ▸ row_set ho03 hgA3 (by decide) 1 (.slice B2 c.vips.length j2)
  clear q1 hg23 hB3 ho03 hBb0 hgAb0 hg2b0 ho0
  have ho0 := hide hn0
  clear hn0
  have ho1 := hide hn1
  clear hn1
  replace hgAb1 := hide hgAb1
  replace hg2b1 := hide hg2b1
  replace hBb1 := hide hBb1
  iterate 2 (refine wpList_plain rfl fun K hK => ?_; go_simp; refine hK _ _ ?_; clear hK K)
  refine wpList_nil ?_
  go_simp
  clear hc hf hwb hgA3
  go_upto_region 3 with fail
  have hc := blk_cell hgAb1.out 2
  apply wp_region_lit
  iterate 2 (refine wpList_plain rfl fun K hK => ?_; go_simp; refine hK _ _ ?_; clear hK K)
  clear hc
  refine wpl_append _ rfl (.const (.slice none 0 0)) (.tmp 12) 24 rfl w.heap.size 82 i3 _ 5 40 Tryd.underlying24 hi3 hy3 hsz3 hbt3 rfl (by decide) (.slice none 0 0) 0 [] rfl (World.ownsRow_nil _ _ _ _) w.heap.size A3 c.views.length k3 _ rfl (p3.out.below hBb1.out).2 (flat_one vwC vwC_one _) (by unfold maxLen; omega) (by omega) hBb1.out.size fun v w3 q1 q2 q3 => ?_
  rw [Nat.zero_add, List.nil_append] at q1
  obtain ⟨B3, j3, hv, -, -, -⟩ := own_isv q1
  subst hv
  have hgA3 := (q2.block z (lt_of_blk hgAb1.out) (by intro e; cases e)).trans hgAb1.out
  have hg23 := (q2.block z2 (lt_of_blk hg2b1.out) (by intro e; cases e)).trans hg2b1.out
  have hB3 := hBb1.out.trans (below_of_grown q2 hBb1.out.size (fun k hk => by cases hk))
  have ho03 := World.ownsRow.kept ho0.out q2 (by cases B1 with | none => exact .inl rfl | some a => exact .inr (by intro e; cases e))
  have ho13 := World.ownsRow.kept ho1.out q2 (by cases B2 with | none => exact .inl rfl | some a => exact .inr (by intro e; cases e))
  clear q2 q3
  have hc := blk_cell hgA3 2
  have hf := blk_free hgA3 2
  obtain ⟨wb2, hwb⟩ : ∃ w4, w3.setCell ⟨z, 2, none⟩ (.slice B3 c.views.length j3) = w4 := ⟨_, rfl⟩
  have hgAb2 := hwb ▸ blk_set hgA3 2 (.slice B3 c.views.length j3)
  have hg2b2 : wb2.heap[z2]? = some (.cells #[.slice none 0 0, .slice none 0 0, .slice none 0 0, .int .i64 0, .int .i64 0, .bool false, .int .u64 0, .int .u64 0, .bool false, .int .u64 0, .int .u64 0] 30 (0, 0)) := by
    obtain ⟨wq, g1, -, g3⟩ := store_cell hgA3 2 (.slice B3 c.views.length j3)
    rw [← hwb, g1]
    exact grown_other g3 (lt_of_blk hg23) (by omega) hg23
  have hBb2 : Below w.heap.size w wb2 := hwb ▸ hB3.setCell (p := ⟨z, 2, none⟩) (by dsimp only; omega) _
  have hn2 := hwb ▸ row_set q1 hgA3 (by decide) 2 (.slice B3 c.views.length j3)
  have hn0 := hwb ▸ row_set ho03 hgA3 (by decide) 2 (.slice B3 c.views.length j3)
  have hn1 := hwb ▸ row_set ho13 hgA3 (by decide) 2 (.slice B3 c.views.length j3)
  clear q1 hg23 hB3 ho03 ho13 hBb1 hgAb1 hg2b1 ho0 ho1
  have ho0 := hide hn0
  clear hn0
  have ho1 := hide hn1
  clear hn1
  have ho2 := hide hn2
  clear hn2
  replace hgAb2 := hide hgAb2
  replace hg2b2 := hide hg2b2
  replace hBb2 := hide hBb2
  iterate 2 (refine wpList_plain rfl fun K hK => ?_; go_simp; refine hK _ _ ?_; clear hK K)
  refine wpList_nil ?_
  go_simp
  clear hc hf hwb hgA3
  go_upto_region 4 with fail
  apply wp_region_lit
  refine wpList_load_mid rfl 30 (.tmp 1) rfl z 0 rfl _ _ (blk_range hgAb2.out) Tryd.underlying30 rfl (by kernel_rfl) ?_
  simp only [Array.toArray_toList]
  refine wpl_st rfl 30 (.tmp 2) (.tmp 15) rfl z2 0 rfl (cfC c (.slice B1 c.nodes.length j1) (.slice B2 c.vips.length j2) (.slice B3 c.views.length j3)) rfl hg2b2.out (Nat.le_refl 11) (by kernel_rfl) (cf_one _ _ _ rfl rfl rfl _ _ _ _ _ _ _ _) fun w9 hg9 g9 => ?_
  rw [putA_whole _ _ (by rfl)] at hg9
  have hb9 : Below w.heap.size w w9 := hBb2.out.trans (below_grown g9 hBb2.out.size (by omega))
  have hv : CfgV w9 w.heap.size c (cfC c (.slice B1 c.nodes.length j1) (.slice B2 c.vips.length j2) (.slice B3 c.views.length j3)) :=
    ⟨World.ownsRow.kept ho0.out g9 (Conf18.row_not_x ho0.out hg2b2.out (by decide)), World.ownsRow.kept ho1.out g9 (Conf18.row_not_x ho1.out hg2b2.out (by decide)), World.ownsRow.kept ho2.out g9 (Conf18.row_not_x ho2.out hg2b2.out (by decide)), rfl⟩
  have hld : (loadVar 30 ⟨z2, 0, none⟩).run Tryd.prog w9 = .ok (.agg (cfC c (.slice B1 c.nodes.length j1) (.slice B2 c.vips.length j2) (.slice B3 c.views.length j3))) w9 := by
    simpa using run_loadVar_mid w9 z2 0 30 (cfC c (.slice B1 c.nodes.length j1) (.slice B2 c.vips.length j2) (.slice B3 c.views.length j3)).toList _ (blk_range hg9) Tryd.underlying30 rfl (by kernel_rfl)
  clear hg9 g9
  replace hld := hide hld
  replace hb9 := hide hb9
  replace hv := hide hv
  refine wpList_nil ?_
  go_simp
  go_wp2_with fail
  exact bodyPost_ret (v := .agg (cfC c (.slice B1 c.nodes.length j1) (.slice B2 c.vips.length j2) (.slice B3 c.views.length j3))) (by simp [results, Tryd.results68, asAddr, hld.out, Result.andThen]) rfl ⟨_, rfl, hv.out, hb9.out⟩
end Val19
end Go.Proofs.YtcpokkkdmenmgaaDoor
