/- limit: Share; nil limits and such as nobody made. Conditions: at most 2^40 sources. -/
import Derived.Test.YtbcicbiphgeghaaDoorQLimitNews1
import Derived.Test.YtbcicbiphgeghaaDoorQLimitPlays1
namespace Go.Proofs.YtbcicbiphgeghaaDoor
open Go.RowKit Go.ChangeShapes Go.WideShapes Go.ChangeAt Go.Deep
namespace Addr05
theorem keptS_mono2 {S S' : Nat} {P : Nat → Prop} {a b : World} (h : KeptS S P a b) (hS : S' ≤ S) : KeptS S' P a b := ⟨h.os, h.tape, h.output, h.size, fun k hk hne => h.block k (by omega) hne⟩
theorem adrC_len (a : Adr) : (adrC a).length = 3 := rfl
/-- The places of those that are not let through. -/
def outI (bT : Nat → Bool) : Nat → List Int
  | 0 => []
  | i + 1 => if bT i = true then outI bT i else outI bT i ++ [(i : Int)]
theorem outI_succ (bT : Nat → Bool) (i : Nat) : outI bT (i + 1) = if bT i = true then outI bT i else outI bT i ++ [(i : Int)] := rfl
theorem outI_le (bT : Nat → Bool) : ∀ n, (outI bT n).length ≤ n
  | 0 => Nat.le_refl _
  | n + 1 => by
    have ih := outI_le bT n
    unfold outI
    split
    · omega
    · rw [List.length_append, List.length_singleton]; omega
theorem outI_all (n : Nat) : (outI (fun _ => false) n).length = n := by
  induction n with
  | zero => rfl
  | succ n ih =>
    unfold outI
    rw [if_neg (by simp), List.length_append, List.length_singleton, ih]
theorem outI_pre (bT : Nat → Bool) (i : Nat) : ∀ d, ∃ l, outI bT (i + d) = outI bT i ++ l
  | 0 => ⟨[], by simp⟩
  | d + 1 => by
    obtain ⟨l, hl⟩ := outI_pre bT i d
    rw [← Nat.add_assoc, outI_succ]
    split
    · exact ⟨l, hl⟩
    · exact ⟨l ++ [((i + d : Nat) : Int)], by rw [hl, List.append_assoc]⟩
theorem outI_get (bT : Nat → Bool) (i n : Nat) (hi : i < n) (hb : bT i = false) : (outI bT n)[(outI bT i).length]? = some (i : Int) := by
  obtain ⟨l, hl⟩ := outI_pre bT (i + 1) (n - (i + 1))
  rw [show i + 1 + (n - (i + 1)) = n by omega] at hl
  rw [hl, outI, if_neg (by rw [hb]; simp), List.append_assoc, List.getElem?_append_right (Nat.le_refl _), Nat.sub_self]
  rfl
set_option maxRecDepth 20000 in
set_option maxHeartbeats 8000000 in
theorem lShare_any (ptr : Value) (A : Option Addr) (n c : Nat) (ads : List Adr) (w : World) (B0 : Nat) (hB0 : B0 ≤ w.heap.size) (hs : IsT adrC 3 w B0 A n ads) (hn : n ≤ 1099511627776)
    (I : Nat → World → Prop) (P : Nat → Prop) (bT : Nat → Bool) (hP : ∀ k, P k → B0 ≤ k ∧ k < w.heap.size) (h0 : I 0 w)
    (hmono : ∀ (i : Nat) (w1 w2 : World), I i w1 → Below w.heap.size w1 w2 → I i w2)
    (hT : ∀ (i : Nat) (a : Adr) (w1 : World), ads[i]? = some a → I i w1 → w.heap.size ≤ w1.heap.size → Calls Tryd.prog 25 #[ptr, .agg #[.bool a.v6, .int .u64 (a.hi : Int), .int .u64 (a.lo : Int)], .int .i64 1] w1 fun r w2 => r = .returned (.bool (bT i)) ∧ I (i + 1) w2 ∧ KeptS w1.heap.size P w1 w2) :
    Calls Tryd.prog 29 #[ptr, .slice A n c] w fun r w' => ∃ v, r = .returned v ∧ OwnI w' w.heap.size v (outI bT n) ∧ I n w' ∧ KeptS w.heap.size P w w' := by
  have hlen := hs.1
  replace hs := hide hs
  replace hP := hide hP
  replace h0 := hide h0
  replace hmono := hide hmono
  replace hT := hide hT
  go_enter Tryd.func29, Tryd.ntmps29
  go_wp2_with fail
  go_loopw [5, 6, 7, 10] (fun v _ _ iv wr => ∃ i : Nat, i ≤ n ∧ iv = .int .i64 (i : Int) ∧ OwnI wr w.heap.size v (outI bT i) ∧ I i wr ∧ KeptS w.heap.size P w wr) (fun _ _ _ iv _ => n - (intOf iv).toNat)
  case atStart => exact ⟨0, by omega, rfl, OwnI.nil _ _, h0.out, keptS_refl _ _ _⟩
  case round =>
    obtain ⟨i, hi, rfl, ho, hI, hk⟩ := hrel
    have hzr := hk.size
    by_cases hin : i < n
    · have hlt : (i : Int) < (n : Int) := by omega
      obtain ⟨bk, off, a, rfl, hbk, hri, hcell⟩ := (hs.out.below (below_kept hk hB0 (fun k h => (hP.out k h).1))).at adrC_len (by omega) hin
      have c0 : wr.cell? ⟨bk, off + i * 3, none⟩ = some (.bool a.v6) := hcell 0 _ rfl
      have c1' : wr.cell? ⟨bk, off + i * 3 + 1, none⟩ = some (.int .u64 (a.hi : Int)) := hcell 1 _ rfl
      have c2' : wr.cell? ⟨bk, off + i * 3 + 2, none⟩ = some (.int .u64 (a.lo : Int)) := hcell 2 _ rfl
      obtain ⟨A3, c3, hv, -, -, -⟩ := ho.form
      have hol := outI_le bT i
      obtain ⟨L, hL⟩ : ∃ L, (outI bT i).length = L := ⟨_, rfl⟩
      rw [hL] at hv hol
      subst hv
      clear hcell
      replace ho := hide ho
      replace hI := hide hI
      replace hk := hide hk
      replace hri := hide hri
      replace hL := hide hL
      go_upto_region 4 with fail
      apply wp_region_lit
      iterate 3 (refine wpList_plain rfl fun K hK => ?_; go_simp; refine hK _ _ ?_; clear hK K)
      refine wpl_newm rfl rfl rfl 26 _ (alloc_adr _ rfl) 7 6 rfl rfl (.int .i64 (i : Int)) (fun _ => rfl) (.tmp 14) rfl _ (fun _ => rfl) (fun _ => rfl) rfl (by kernel_rfl) (adr_one a.v6 (a.hi : Int) (a.lo : Int)) ?_
      intro w4 hg4 hb4 hz4
      refine wpList_nil ?_
      go_simp
      have hI4 := hmono.out i wr w4 hI.out (hb4.mono hzr)
      have ho4 : OwnI w4 w.heap.size (.slice A3 L c3) (outI bT i) := row_on ho.out hb4
      have hk4 := keptS_trans _ _ _ _ _ hk.out (keptS_of_below (P := P) hb4 hzr)
      have hz44 : w.heap.size ≤ w4.heap.size := by omega
      have hcall := hT.out i a w4 hri.out hI4 hz44
      have hcg := blk_cell hg4
      obtain ⟨b, hb⟩ : ∃ b, bT i = b := ⟨_, rfl⟩
      rw [hb] at hcall
      clear c0 c1' c2' hb4 hg4 hI hk ho hI4
      replace hcall := hide hcall
      replace ho4 := hide ho4
      replace hk4 := hide hk4
      replace hb := hide hb
      go_wp2_with fail
      refine hcall.out.mono ?_
      rintro e w5 ⟨rfl, hI5, hk5⟩
      have hk45 := keptS_trans _ _ _ _ _ hk4.out (keptS_mono2 hk5 hz44)
      have ho5 : OwnI w5 w.heap.size (.slice A3 L c3) (outI bT i) := row_on2 ho4.out fun k h => hk5.block k (World.ownsRow.lt ho4.out k h).2 (fun hp => by
        have h1 := (hP.out k hp).2
        have h2 := (World.ownsRow.lt ho4.out k h).1
        omega)
      clear hcg hcall hk5 hk4 ho4
      cases b
      · replace hI5 := hide hI5
        replace hk45 := hide hk45
        replace ho5 := hide ho5
        go_upto_region 6 with fail
        apply wp_region_lit
        iterate 3 (refine wpList_plain rfl fun K hK => ?_; go_simp; refine hK _ _ ?_; clear hK K)
        have hs5 := hk45.out.size
        refine wpl_lit_i rfl (.tmp 19) (.tmp 21) rfl w.heap.size _ (outI bT i) [(i : Int)] 1 rfl rfl ho5.out hs5 (by rw [hL.out, List.length_singleton]; omega) fun v' w' h1 h2 h3 h4 => ?_
        have ho6 : OwnI w' w.heap.size v' (outI bT (i + 1)) := by
          unfold outI
          rw [if_neg (by rw [hb.out]; simp)]
          exact h1
        have hI6 := hmono.out _ _ _ hI5.out h2
        have hk6 := keptS_trans _ _ _ _ _ hk45.out (keptS_of_below (P := P) h2 (Nat.le_refl _))
        clear h1 h2 h3 h4 hI5 hk45 ho5
        replace ho6 := hide ho6
        replace hI6 := hide hI6
        replace hk6 := hide hk6
        iterate 1 (refine wpList_plain rfl fun K hK => ?_; go_simp; refine hK _ _ ?_; clear hK K)
        refine wpList_nil ?_
        go_simp
        go_wp2_with fail
        exact ⟨⟨i + 1, by omega, by first | rfl | go_num, ho6.out, hI6.out, hk6.out⟩, by simp only [intOf]; omega⟩
      · have ho6 : OwnI w5 w.heap.size (.slice A3 L c3) (outI bT (i + 1)) := by
          unfold outI
          rw [if_pos hb.out]
          exact ho5
        clear ho5
        replace ho6 := hide ho6
        replace hI5 := hide hI5
        replace hk45 := hide hk45
        go_wp2_with fail
        exact ⟨⟨i + 1, by omega, by first | rfl | go_num, ho6.out, hI5.out, hk45.out⟩, by simp only [intOf]; omega⟩
    · obtain rfl : i = n := by omega
      have hlt : ((i : Int) < (i : Int)) = False := by simp
      replace ho := hide ho
      replace hI := hide hI
      replace hk := hide hk
      go_wp2_with fail
      go_ret
      exact ⟨_, rfl, ho.out, hI.out, hk.out⟩
end Addr05
end Go.Proofs.YtbcicbiphgeghaaDoor
/- limit: limits that are nil, and such as nobody made. No condition. -/
namespace Go.Proofs.YtbcicbiphgeghaaDoor
open Go.RowKit Go.ChangeShapes Go.WideShapes Go.ChangeAt Go.Deep
namespace Addr05
/-- Limits as nobody made them. -/
def zeroAt (w : World) (x : Nat) : Prop := w.heap[x]? = some (.cells #[.pointer none, .slice none 0 0, .slice none 0 0, .int .i64 0] 47 (0, 0))
set_option maxRecDepth 20000 in
set_option maxHeartbeats 8000000 in
theorem lTake_nil (v6 : Bool) (hi lo : Int) (k : Int) (w : World) : Calls Tryd.prog 25 #[.pointer none, .agg #[.bool v6, .int .u64 hi, .int .u64 lo], .int .i64 k] w fun r w' => r = .returned (.bool false) ∧ Below w.heap.size w w' := by
  obtain ⟨w1, hw1⟩ : ∃ w1, w.alloc (.cells #[.bool v6, .int .u64 hi, .int .u64 lo] 26) = w1 := ⟨_, rfl⟩
  have hB : Below w.heap.size w w1 := hw1 ▸ (Below.refl _ _).alloc (Nat.le_refl _) _
  have q1 := lnone_nil w1
  replace q1 := hide q1
  replace hB := hide hB
  go_enter Tryd.func25, Tryd.ntmps25
  go_upto_region 1 with fail
  clear hw1
  go_wp2_with fail
  refine (q1.out).mono ?_
  rintro e w2 ⟨rfl, rfl⟩
  clear q1
  go_wp2_with fail
  go_ret
  exact ⟨rfl, hB.out⟩
set_option maxRecDepth 20000 in
set_option maxHeartbeats 8000000 in
theorem lTake_zero (x : Nat) (v6 : Bool) (hi lo : Int) (k : Int) (w : World) (h : zeroAt w x) : Calls Tryd.prog 25 #[.pointer (some ⟨x, 0, none⟩), .agg #[.bool v6, .int .u64 hi, .int .u64 lo], .int .i64 k] w fun r w' => r = .returned (.bool false) ∧ Below w.heap.size w w' := by
  obtain ⟨w1, hw1⟩ : ∃ w1, w.alloc (.cells #[.bool v6, .int .u64 hi, .int .u64 lo] 26) = w1 := ⟨_, rfl⟩
  have hB : Below w.heap.size w w1 := hw1 ▸ (Below.refl _ _).alloc (Nat.le_refl _) _
  have q1 := lnone_zero x _ _ _ w1 (blk_below hB (lt_of_blk h) h)
  replace q1 := hide q1
  replace hB := hide hB
  go_enter Tryd.func25, Tryd.ntmps25
  go_upto_region 1 with fail
  clear hw1
  go_wp2_with fail
  refine (q1.out).mono ?_
  rintro e w2 ⟨rfl, rfl⟩
  clear q1
  go_wp2_with fail
  go_ret
  exact ⟨rfl, hB.out⟩
set_option maxRecDepth 20000 in
set_option maxHeartbeats 8000000 in
theorem lOf_nil (v6 : Bool) (hi lo : Int) (w : World) : Calls Tryd.prog 16 #[.pointer none, .agg #[.bool v6, .int .u64 hi, .int .u64 lo]] w fun r w' => r = .returned (.int .i64 (-1)) ∧ Below w.heap.size w w' := by
  obtain ⟨w1, hw1⟩ : ∃ w1, w.alloc (.cells #[.bool v6, .int .u64 hi, .int .u64 lo] 26) = w1 := ⟨_, rfl⟩
  have hB : Below w.heap.size w w1 := hw1 ▸ (Below.refl _ _).alloc (Nat.le_refl _) _
  have q1 := lnone_nil w1
  replace q1 := hide q1
  replace hB := hide hB
  go_enter Tryd.func16, Tryd.ntmps16
  go_upto_region 1 with fail
  clear hw1
  go_wp2_with fail
  refine (q1.out).mono ?_
  rintro e w2 ⟨rfl, rfl⟩
  clear q1
  go_wp2_with fail
  go_ret
  exact ⟨rfl, hB.out⟩
set_option maxRecDepth 20000 in
set_option maxHeartbeats 8000000 in
theorem lWait_zero (x : Nat) (v6 : Bool) (hi lo : Int) (k : Int) (w : World) (h : zeroAt w x) : Calls Tryd.prog 28 #[.pointer (some ⟨x, 0, none⟩), .agg #[.bool v6, .int .u64 hi, .int .u64 lo], .int .i64 k] w fun r w' => r = .returned (.int .i64 (-1)) ∧ Below w.heap.size w w' := by
  obtain ⟨w1, hw1⟩ : ∃ w1, w.alloc (.cells #[.bool v6, .int .u64 hi, .int .u64 lo] 26) = w1 := ⟨_, rfl⟩
  have hB : Below w.heap.size w w1 := hw1 ▸ (Below.refl _ _).alloc (Nat.le_refl _) _
  have q1 := lnone_zero x _ _ _ w1 (blk_below hB (lt_of_blk h) h)
  replace q1 := hide q1
  replace hB := hide hB
  go_enter Tryd.func28, Tryd.ntmps28
  go_upto_region 1 with fail
  clear hw1
  go_wp2_with fail
  refine (q1.out).mono ?_
  rintro e w2 ⟨rfl, rfl⟩
  clear q1
  go_wp2_with fail
  go_ret
  exact ⟨rfl, hB.out⟩
set_option maxRecDepth 20000 in
set_option maxHeartbeats 8000000 in
theorem lGo_nil (t : Int) (w : World) : Calls Tryd.prog 23 #[.pointer none, .int .i64 t] w fun r w' => r = .returned (.int .i64 9) ∧ w' = w := by
  have q1 := lnone_nil w
  replace q1 := hide q1
  go_enter Tryd.func23, Tryd.ntmps23
  go_wp2_with fail
  refine (q1.out).mono ?_
  rintro e w2 ⟨rfl, rfl⟩
  clear q1
  go_wp2_with fail
  go_ret
  exact ⟨rfl, rfl⟩
set_option maxRecDepth 20000 in
set_option maxHeartbeats 8000000 in
theorem lHave_nil (j : Int) (w : World) : Calls Tryd.prog 20 #[.pointer none, .int .i64 j] w fun r w' => r = .returned (.int .i64 0) ∧ w' = w := by
  have q1 := lnone_nil w
  replace q1 := hide q1
  go_enter Tryd.func20, Tryd.ntmps20
  go_wp2_with fail
  refine (q1.out).mono ?_
  rintro e w2 ⟨rfl, rfl⟩
  clear q1
  go_wp2_with fail
  go_ret
  exact ⟨rfl, rfl⟩
set_option maxRecDepth 20000 in
set_option maxHeartbeats 8000000 in
theorem lRules_nil (w : World) : Calls Tryd.prog 19 #[.pointer none] w fun r w' => r = .returned (.slice none 0 0) ∧ w' = w := by
  have q1 := lnone_nil w
  replace q1 := hide q1
  go_enter Tryd.func19, Tryd.ntmps19
  go_wp2_with fail
  refine (q1.out).mono ?_
  rintro e w2 ⟨rfl, rfl⟩
  clear q1
  go_wp2_with fail
  go_ret
  exact ⟨rfl, rfl⟩
/-- Nil limits let none through. -/
theorem lShare_nil (A : Option Addr) (n c : Nat) (ads : List Adr) (w : World) (hs : IsT adrC 3 w w.heap.size A n ads) (hn : n ≤ 1099511627776) :
    Calls Tryd.prog 29 #[.pointer none, .slice A n c] w fun r w' => ∃ A' c', r = .returned (.slice A' n c') ∧ Below w.heap.size w w' := by
  refine (lShare_any (.pointer none) A n c ads w w.heap.size (Nat.le_refl _) hs hn (fun _ _ => True) (fun _ => False) (fun _ => false) (fun k h => h.elim) trivial (fun _ _ _ _ _ => trivial) ?_).mono ?_
  · intro i a w1 _ _ _
    refine (lTake_nil a.v6 (a.hi : Int) (a.lo : Int) 1 w1).mono ?_
    rintro r w2 ⟨rfl, hb⟩
    exact ⟨rfl, trivial, keptS_of_below hb (Nat.le_refl _)⟩
  · rintro r w' ⟨v, rfl, ho, -, hk⟩
    obtain ⟨A', c', rfl, -, -, -⟩ := ho.form
    rw [outI_all]
    exact ⟨A', c', rfl, below_kept hk (Nat.le_refl _) (fun k h => h.elim)⟩
/-- What limits' buckets have behind so many sources. -/
def unA (ls : List Rul) (ads : List Adr) (i : Nat) : Option Nat := match ads[i]? with | some a => undF ls a | none => none
def shS (ls : List Rul) (ads : List Adr) : Nat → (Nat → Int)
  | 0 => HF ls
  | i + 1 => tkH (shS ls ads i) (unA ls ads i) 1
def shB (ls : List Rul) (ads : List Adr) (i : Nat) : Bool := tkB (shS ls ads i) (unA ls ads i) 1
theorem shS_le {ls : List Rul} (hg : Good ls) (ads : List Adr) : ∀ n (i : Nat) (r : Rul), ls[i]? = some r → 0 ≤ shS ls ads n i ∧ shS ls ads n i ≤ r.m
  | 0 => HF_le hg
  | n + 1 => tkH_le _ _ (shS_le hg ads n)
theorem lTake_sh (w : World) (base x tg : Nat) (N : Nodes) (n : Int) (rs bs : Value) (ls : List Rul) (gs : List Nat) (ads : List Adr) (hoa : ∀ a ∈ ads, a.ok) (i : Nat) (h : LimC w base x tg N (keysOf (putsR ls)) n rs bs ls gs ls (fun k => (shS ls ads i k, 0)) 0) (hgl : gs.length = ls.length) (hel : ls.length ≤ 1099511627776)
    (hok : ∀ r ∈ ls, r.ok) (hg : Good ls) (a : Adr) (hi : ads[i]? = some a) :
    Calls Tryd.prog 25 #[.pointer (some ⟨x, 0, none⟩), .agg #[.bool a.v6, .int .u64 (a.hi : Int), .int .u64 (a.lo : Int)], .int .i64 1] w fun r w' => r = .returned (.bool (shB ls ads i)) ∧ LimC w' base x tg N (keysOf (putsR ls)) n rs bs ls gs ls (fun k => (shS ls ads (i + 1) k, 0)) 0 ∧ KeptS w.heap.size (fun q => q ∈ gs) w w' := by
  have e : unA ls ads i = undF ls a := by unfold unA; rw [hi]
  have h1 := lTake_is w base x tg N n rs bs ls gs (shS ls ads i) 0 h hgl hel hok hg (shS_le hg ads i) a (hoa a (List.mem_of_getElem? hi)) 1
  rw [← e] at h1
  exact h1
/-- Share, of limits that have been used no more than for the same sources. -/
theorem lShare_is (w : World) (base x tg : Nat) (N : Nodes) (n : Int) (rs bs : Value) (ls : List Rul) (gs : List Nat) (A : Option Addr) (m c : Nat) (ads : List Adr) (hoa : ∀ a ∈ ads, a.ok) (h : LimC w base x tg N (keysOf (putsR ls)) n rs bs ls gs ls (fun k => (HF ls k, 0)) 0) (hgl : gs.length = ls.length) (hel : ls.length ≤ 1099511627776)
    (hok : ∀ r ∈ ls, r.ok) (hg : Good ls) (hbase : base ≤ w.heap.size) (hs : IsT adrC 3 w base A m ads) (hm : m ≤ 1099511627776) :
    Calls Tryd.prog 29 #[.pointer (some ⟨x, 0, none⟩), .slice A m c] w fun r w' => ∃ v, r = .returned v ∧ OwnI w' w.heap.size v (outI (shB ls ads) m) ∧ KeptS w.heap.size (fun q => q ∈ gs) w w' := by
  have hin := h.inB
  refine (lShare_any (.pointer (some ⟨x, 0, none⟩)) A m c ads w base hbase hs hm (fun i w1 => LimC w1 base x tg N (keysOf (putsR ls)) n rs bs ls gs ls (fun k => (shS ls ads i k, 0)) 0) (fun q => q ∈ gs) (shB ls ads) (fun k hk => ⟨h.hgs k hk, hin.gs k hk⟩) h (fun i w1 w2 h1 hb => h1.onB hin hb) ?_).mono ?_
  · intro i a w1 hi h1 _
    exact lTake_sh w1 base x tg N n rs bs ls gs ads hoa i h1 hgl hel hok hg a hi
  · rintro r w' ⟨v, rfl, ho, -, hk⟩
    exact ⟨v, rfl, ho, hk⟩
end Addr05
end Go.Proofs.YtbcicbiphgeghaaDoor
/- The walk of LimitShares: it answers true. Condition: the cell of bytealg.MaxLen. -/
namespace Go.Proofs.YtbcicbiphgeghaaDoor
open Go.RowKit Go.ChangeShapes Go.WideShapes Go.ChangeAt Go.Deep
namespace Addr05
set_option maxRecDepth 20000 in
set_option maxHeartbeats 8000000 in
theorem lshares_walk (A : Option Addr) (n c : Nat) (es : List Rul) (A1 : Option Addr) (n1 c1 : Nat) (ads0 : List Adr) (w1 : World) (hx1 : IsT rulC 6 w1 w1.heap.size A n es) (hok : ∀ r ∈ es, r.ok) (hnc : n ≤ c) (hcm : c ≤ maxLen) (hs1 : IsT adrC 3 w1 w1.heap.size A1 n1 ads0) (hoo : ∀ a ∈ ads0, a.ok) (hnc1 : n1 ≤ c1) (hcm1 : c1 ≤ maxLen) (hm1 : MaxAt w1) :
    Calls Tryd.prog 6 #[.slice A n c, .slice A1 n1 c1] w1 fun e w' => e = .returned (.bool true) ∧ Below w1.heap.size w1 w' := by
  have hA := fun w => lawake_any w
  have qf := few_any n c A es w1 hx1 hnc hcm
  have hlo := hs1.1
  clear hx1
  replace hA := hide hA
  replace hs1 := hide hs1
  replace hm1 := hide hm1
  replace qf := hide qf
  replace hok := hide hok
  replace hoo := hide hoo
  go_enter Tryd.func6, Tryd.ntmps6
  go_wp2_with fail
  refine qf.out.mono ?_
  rintro e w2 ⟨⟨A', m, rfl, hx2, hm20, hmc⟩, rfl⟩
  have hok2 : ∀ r ∈ es.take 20, r.ok := fun r hr => hok.out r (List.mem_of_mem_take hr)
  obtain ⟨ls, hls⟩ : ∃ l, es.take 20 = l := ⟨_, rfl⟩
  rw [hls] at hx2 hok2
  clear qf hok hls
  replace hx2 := hide hx2
  replace hok2 := hide hok2
  go_upto_if 20 with fail
  go_cut [1] from 21 to 22 (fun v wx => (∃ A3 k, v = .slice A3 k c1 ∧ IsT adrC 3 wx wx.heap.size A3 k (ads0.take 40) ∧ k ≤ 40) ∧ w2 = wx)
  case first =>
    by_cases h40 : 40 < n1
    · have t1 : decide ((40 : Int) < (n1 : Int)) = true := by rw [decide_eq_true_eq]; omega
      have i0 : (40 : Int) < (n1 : Int) := by omega
      have i1 : (40 : Int) ≤ (c1 : Int) := by omega
      obtain ⟨b, off, x, rfl, -⟩ := hs1.out.at adrC_len (by omega) (show 0 < n1 by omega)
      have ht := hs1.out.take adrC_len (show 40 ≤ n1 by omega)
      replace ht := hide ht
      go_wp2_with fail
      go_meet
      exact ⟨⟨_, 40, rfl, ht.out, by omega⟩, rfl⟩
    · have i0 : ¬ (40 : Int) < (n1 : Int) := by omega
      have ht : ads0.take 40 = ads0 := List.take_of_length_le (by omega)
      go_wp2_with fail
      go_meet
      exact ⟨⟨_, n1, rfl, by rw [ht]; exact hs1.out, by omega⟩, rfl⟩
  case rest =>
  obtain ⟨⟨A3, k, rfl, hs, hk40⟩, rfl⟩ := hcut
  have hoa : ∀ a ∈ ads0.take 40, a.ok := fun a ha => hoo.out a (List.mem_of_mem_take ha)
  obtain ⟨ads, hads⟩ : ∃ l, ads0.take 40 = l := ⟨_, rfl⟩
  rw [hads] at hs hoa
  clear hads hs1 hoo hlo
  obtain ⟨w3, hw3⟩ : ∃ w3, w2.alloc (.cells #[.pointer none, .slice none 0 0, .slice none 0 0, .int .i64 0] 47) = w3 := ⟨_, rfl⟩
  have hB3 : Below w2.heap.size w2 w3 := hw3 ▸ (Below.refl _ _).alloc (Nat.le_refl _) _
  have hz3 : zeroAt w3 w2.heap.size := hw3 ▸ blk_new _ _ _
  have hzl : w2.heap.size < w3.heap.size := by rw [← hw3]; simp
  have hs3 := hs.on hB3
  have q := lShare_nil A3 k c1 ads w3 hs3 (by omega)
  replace hs := hide hs
  replace hoa := hide hoa
  replace hB3 := hide hB3
  replace hz3 := hide hz3
  replace q := hide q
  go_upto_region 6 with fail
  clear hw3
  go_wp2_with fail
  refine q.out.mono ?_
  rintro e w4 ⟨A4, c4, rfl, hb4⟩
  have hB4 := hB3.out.trans (hb4.mono hB3.out.size)
  have hz4 : zeroAt w4 w2.heap.size := blk_below hb4 hzl hz3.out
  have q := lGo_nil 1 w4
  clear hb4
  replace hB4 := hide hB4
  replace hz4 := hide hz4
  replace q := hide q
  go_wp2_with fail
  refine q.out.mono ?_
  rintro e w5 ⟨rfl, rfl⟩
  have q := lTake_zero w2.heap.size false 0 0 0 w5 hz4.out
  replace q := hide q
  go_wp2_with fail
  refine q.out.mono ?_
  rintro e w6 ⟨rfl, hb6⟩
  have hB6 := hB4.out.trans (hb6.mono hB4.out.size)
  have hz6 : zeroAt w6 w2.heap.size := blk_below hb6 (lt_of_blk hz4.out) hz4.out
  have q := lOf_nil false 0 0 w6
  clear hb6
  replace hB6 := hide hB6
  replace hz6 := hide hz6
  replace q := hide q
  go_wp2_with fail
  refine q.out.mono ?_
  rintro e w7 ⟨rfl, hb7⟩
  have hB7 := hB6.out.trans (hb7.mono hB6.out.size)
  have hz7 : zeroAt w7 w2.heap.size := blk_below hb7 (lt_of_blk hz6.out) hz6.out
  have q := lWait_zero w2.heap.size false 0 0 0 w7 hz7
  clear hb7
  replace hB7 := hide hB7
  replace q := hide q
  go_wp2_with fail
  refine q.out.mono ?_
  rintro e w8 ⟨rfl, hb8⟩
  have hB8 := hB7.out.trans (hb8.mono hB7.out.size)
  have q := lHave_nil 0 w8
  clear hb8 hz7
  replace hB8 := hide hB8
  replace q := hide q
  go_wp2_with fail
  refine q.out.mono ?_
  rintro e w9 ⟨rfl, rfl⟩
  have q := lRules_nil w9
  replace q := hide q
  go_wp2_with fail
  refine q.out.mono ?_
  rintro e w10 ⟨rfl, rfl⟩
  have hN := lNew_any m c A' ls hok2.out w10 (hx2.out.on hB8.out) (by omega)
  clear q hz4 hz6 hz3 hB3 hB4 hB6 hB7
  replace hN := hide hN
  go_wp2_with fail
  refine hN.out.mono ?_
  rintro e w11 hE
  obtain ⟨hb11, hE⟩ := hE.two
  have hB11 := hB8.out.trans (hb11.mono hB8.out.size)
  have hN2 := lNew_any m c A' ls hok2.out w11 (hx2.out.on hB11) (by omega)
  clear hN
  rcases hE with ⟨X6, cc, rfl, hcc⟩ | ⟨hG, x, tg, N, rs, bs, gs, rfl, hL, hgl⟩
  · clear hb11 hB8
    replace hN2 := hide hN2
    replace hB11 := hide hB11
    go_wp2_with fail
    refine hN2.out.mono ?_
    rintro e w12 hE2
    obtain ⟨hb12, X5, X6', X7, rfl, -, -⟩ := hE2.split
    have hB12 := hB11.out.trans (hb12.mono hB11.out.size)
    have p := hA.out w12 (hm1.out.below hB12)
    clear hN2 hb12 hE2 hB11
    replace hB12 := hide hB12
    replace p := hide p
    go_wp2_with fail
    refine p.out.mono ?_
    rintro e w13 ⟨rfl, hb13⟩
    have hB13 := hB12.out.trans (hb13.mono hB12.out.size)
    clear hb13
    replace hB13 := hide hB13
    go_wp2_with fail
    go_ret
    exact ⟨rfl, hB13.out⟩
  · replace hN2 := hide hN2
    replace hB11 := hide hB11
    replace hL := hide hL
    replace hG := hide hG
    replace hb11 := hide hb11
    go_wp2_with fail
    refine hN2.out.mono ?_
    rintro e w12 hE2
    obtain ⟨hb12, X5, X6, X7, rfl, -, hgood⟩ := hE2.split
    obtain ⟨y, tg2, N2, rs2, bs2, gs2, rfl, rfl, rfl, hL2, hgl2⟩ := hgood hG.out
    have hB12 := hB11.out.trans (hb12.mono hB11.out.size)
    have hz10 := hB8.out.size
    have hz11 := hb11.out.size
    have hz12 := hb12.size
    have hlen := hx2.out.1
    have hs10 := hs.out.on hB8.out
    have hs12 : IsT adrC 3 w12 w10.heap.size A3 k ads := hs10.below (hb11.out.trans (hb12.mono hz11))
    have q := lShare_is w12 w10.heap.size x tg N _ rs bs ls gs A3 k c1 ads hoa.out (hL.out.below hb12) hgl (by omega) hok2.out hG.out (by omega) hs12 (by omega)
    have hgx := hL.out.inB.gs
    have hgy := hL2.inB.gs
    have hgx0 := hL.out.hgs
    clear hN2 hb12 hE2 hgood hB11 hL hb11 hs10
    replace hB12 := hide hB12
    replace hL2 := hide hL2
    replace hs12 := hide hs12
    replace q := hide q
    replace hgx := hide hgx
    replace hgy := hide hgy
    replace hgx0 := hide hgx0
    go_wp2_with fail
    refine q.out.mono ?_
    rintro e w13 ⟨v, rfl, hv, hk13⟩
    have hL3 := hL2.out.off hk13 hgx.out
    have hs13 := hs12.out.below (below_kept hk13 (by omega) hgx0.out)
    have hB13 := hB12.out.trans (below_kept hk13 hB12.out.size (fun j hj => Nat.le_trans hz10 (hgx0.out j hj)))
    have hz13 := hk13.size
    obtain ⟨A5, c5, rfl, -, -, -⟩ := hv.form
    obtain ⟨L, hLL⟩ : ∃ L, (outI (shB ls ads) k).length = L := ⟨_, rfl⟩
    rw [hLL]
    rw [hLL] at hv
    have hLk := outI_le (shB ls ads) k
    rw [hLL] at hLk
    have hy0 := hL2.out.hgs
    clear q hk13 hL2 hs12 hB12 hgx hgx0
    replace hv := hide hv
    replace hL3 := hide hL3
    replace hs13 := hide hs13
    replace hB13 := hide hB13
    replace hLL := hide hLL
    replace hy0 := hide hy0
    go_wp2_with fail
    go_loopw [14, 15] (fun nv iv wr => ∃ i : Nat, i ≤ k ∧ iv = .int .i64 (i : Int) ∧ nv = .int .i64 (((outI (shB ls ads) i).length : Nat) : Int) ∧ LimC wr w11.heap.size y tg2 N2 (keysOf (putsR ls)) (ls.length : Int) rs2 bs2 ls gs2 ls (fun q => (shS ls ads i q, 0)) 0 ∧ OwnI wr w12.heap.size (.slice A5 L c5) (outI (shB ls ads) k) ∧ Below w10.heap.size w13 wr) (fun _ iv _ => k - (intOf iv).toNat)
    case atStart => exact ⟨0, by omega, rfl, rfl, hL3.out, hv.out, Below.refl _ _⟩
    case round =>
      obtain ⟨i, hi, rfl, rfl, hLi, hvi, hbi⟩ := hrel
      have hzi := hbi.size
      by_cases hik : i < k
      · have hlt : (i : Int) < (k : Int) := by omega
        obtain ⟨bk, off, a, rfl, hbk, hri, hcell⟩ := (hs13.out.below hbi).at adrC_len (by omega) hik
        have c0 : wr.cell? ⟨bk, off + i * 3, none⟩ = some (.bool a.v6) := hcell 0 _ rfl
        have c1' : wr.cell? ⟨bk, off + i * 3 + 1, none⟩ = some (.int .u64 (a.hi : Int)) := hcell 1 _ rfl
        have c2' : wr.cell? ⟨bk, off + i * 3 + 2, none⟩ = some (.int .u64 (a.lo : Int)) := hcell 2 _ rfl
        have q := lTake_sh wr _ y tg2 N2 _ rs2 bs2 ls gs2 ads hoa.out i hLi hgl2 (by omega) hok2.out hG.out a hri
        obtain ⟨nn, hnn⟩ : ∃ l, (outI (shB ls ads) i).length = l := ⟨_, rfl⟩
        have hnk := outI_le (shB ls ads) i
        rw [hnn] at hnk
        have hget := outI_get (shB ls ads) i k hik
        rw [hnn] at hget ⊢
        have hsu := outI_succ (shB ls ads) i
        obtain ⟨b, hb⟩ : ∃ b, shB ls ads i = b := ⟨_, rfl⟩
        rw [hb] at q hget hsu
        clear hcell hLi
        replace q := hide q
        replace hvi := hide hvi
        replace hbi := hide hbi
        replace hget := hide hget
        replace hsu := hide hsu
        replace hb := hide hb
        replace hnn := hide hnn
        replace hri := hide hri
        go_wp2_with fail
        refine q.out.mono ?_
        rintro e w14 ⟨rfl, hL14, hk14⟩
        have hv14 : OwnI w14 w12.heap.size (.slice A5 L c5) (outI (shB ls ads) k) := row_on2 hvi.out fun j h => hk14.block j (World.ownsRow.lt hvi.out j h).2 (fun hp => by
          have h1 := hgy.out j hp
          have h2 := (World.ownsRow.lt hvi.out j h).1
          omega)
        have hb14 := hbi.out.trans (below_kept hk14 (by omega) (fun j hj => by have := hy0.out j hj; omega))
        clear q hvi hbi hk14 c0 c1' c2'
        cases b
        · have hg1 := hget.out rfl
          have hnL : nn < L := by
            have := (List.getElem?_eq_some_iff.1 hg1).1
            rw [hLL.out] at this
            exact this
          have hnL2 : (nn : Int) < (L : Int) := by omega
          obtain ⟨A6, c6, e6, -, -, hvv⟩ := hv14.form
          rw [hLL.out] at e6 hvv
          cases e6
          obtain ⟨b6, o6, rfl, -, hc6⟩ := hvv.2 (by omega)
          have hcell : w14.cell? ⟨b6, o6 + nn, none⟩ = some (.int .i64 (i : Int)) := by
            rw [hc6 nn (by rw [List.length_map, hLL.out]; omega), List.getElem_map]
            have h2 := (List.getElem?_eq_some_iff.1 hg1).2
            rw [h2]
          have hn2 : (outI (shB ls ads) (i + 1)).length = nn + 1 := by rw [hsu.out, if_neg (by simp), List.length_append, hnn.out, List.length_singleton]
          have wn : IntKind.i64.wrap ((nn : Int) + 1) = ((nn + 1 : Nat) : Int) := by rw [wraps62 _ (by omega) (by omega)]; omega
          clear hvv hc6 hget
          replace hL14 := hide hL14
          replace hv14 := hide hv14
          replace hb14 := hide hb14
          replace hn2 := hide hn2
          replace hg1 := hide hg1
          go_wp2_with fail
          exact ⟨⟨i + 1, by omega, by first | rfl | go_num, by rw [hn2.out]; first | rfl | go_num, hL14.out, hv14.out, hb14.out⟩, by simp only [intOf]; omega⟩
        · have hn2 : (outI (shB ls ads) (i + 1)).length = nn := by rw [hsu.out, if_pos rfl, hnn.out]
          clear hget
          replace hL14 := hide hL14
          replace hv14 := hide hv14
          replace hb14 := hide hb14
          replace hn2 := hide hn2
          go_wp2_with fail
          exact ⟨⟨i + 1, by omega, by first | rfl | go_num, by rw [hn2.out], hL14.out, hv14.out, hb14.out⟩, by simp only [intOf]; omega⟩
      · obtain rfl : i = k := by omega
        have hlt : ((i : Int) < (i : Int)) = False := by simp
        have hB14 := hB13.out.trans (hbi.mono (by omega))
        have p := hA.out wr (hm1.out.below hB14)
        rw [hLL.out]
        clear hLi hvi hbi
        replace hB14 := hide hB14
        replace p := hide p
        go_wp2_with fail
        refine p.out.mono ?_
        rintro e w15 ⟨rfl, hb15⟩
        have hB15 := hB14.out.trans (hb15.mono hB14.out.size)
        clear hb15
        replace hB15 := hide hB15
        go_wp2_with fail
        go_ret
        exact ⟨rfl, hB15.out⟩
theorem lshares_row (A : Option Addr) (n c : Nat) (es : List Rul) (A1 : Option Addr) (n1 c1 : Nat) (ads : List Adr) (w : World) (hx : IsT rulC 6 w w.heap.size A n es ∧ ∀ x ∈ es, Rul.ok x) (hnc : n ≤ c) (hcm : c ≤ maxLen) (hs : IsT adrC 3 w w.heap.size A1 n1 ads ∧ ∀ x ∈ ads, Adr.ok x) (hnc1 : n1 ≤ c1) (hcm1 : c1 ≤ maxLen) (hm : MaxAt w) :
    Calls Tryd.prog 6 #[.slice A n c, .slice A1 n1 c1] w fun e w' => e = .returned (.bool true) ∧ Below w.heap.size w w' :=
  lshares_walk A n c es A1 n1 c1 ads w hx.1 hx.2 hnc hcm hs.1 hs.2 hnc1 hcm1 hm
end Addr05
end Go.Proofs.YtbcicbiphgeghaaDoor
