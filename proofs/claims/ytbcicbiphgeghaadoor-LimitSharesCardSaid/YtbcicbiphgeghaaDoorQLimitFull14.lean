/- law45: awake. Condition: the cell of bytealg.MaxLen. -/
import Derived.Test.YtbcicbiphgeghaaDoorQLimitFull13
import Derived.Test.YtbcicbiphgeghaaDoorQLimitFull9
import Derived.Test.YtbcicbiphgeghaaDoorQLimitFull2
import Derived.Test.YtbcicbiphgeghaaDoorQLimitFull6
import Derived.HandedShaped
import Derived.LaidMore
import Derived.Lay
import Derived.OpenShut
import Derived.Shelf.Vars
import Derived.Stop.Joined
namespace Go.Proofs.YtbcicbiphgeghaaDoor
open Go.RowKit Go.ChangeShapes Go.WideShapes Go.ChangeAt Go.Deep
namespace Addr05
/-- What a bucket has at first. -/
def HF (R : List Rul) : Nat → Int := fun k => (R[k]?.map (fun r : Rul => r.m)).getD 0
theorem HF_le {es : List Rul} (hg : Good es) : ∀ (i : Nat) (r : Rul), es[i]? = some r → 0 ≤ HF es i ∧ HF es i ≤ r.m := by
  intro i r hr
  obtain ⟨-, -, hrr, -⟩ := hg.at hr
  obtain ⟨he0, he, hm0, hm⟩ := (rightR_iff r.e r.m).1 hrr
  have e : HF es i = r.m := by unfold HF; rw [hr]; rfl
  rw [e]
  omega
theorem below_kept {S B : Nat} {P : Nat → Prop} {w w' : World} (h : KeptS S P w w') (hB : B ≤ S) (hP : ∀ k, P k → B ≤ k) : Below B w w' :=
  ⟨h.os, h.tape, h.output, h.size, fun k hk => h.block k (by omega) (fun hp => by have := hP k hp; omega)⟩
def rA : Rul := ⟨⟨false, 0, 167772160⟩, 8, 0, 1⟩
def aA : Adr := ⟨false, 0, 167837953⟩
theorem rA_ok : ∀ r ∈ [rA], r.ok := by
  intro r hr
  obtain rfl := List.mem_singleton.1 hr
  refine ⟨⟨by decide, by decide⟩, by decide, by decide, by decide⟩
theorem rA_und : undF [rA] aA = some 0 := by kernel_rfl
theorem rA_bad : badC [rA] 0 rA = 0 := by kernel_rfl
theorem rA_key : ∀ (i : Nat) (r : Rul), [rA][i]? = some r → badC [rA] i r = 0 := by
  intro i r h
  cases i with
  | zero =>
    obtain rfl : rA = r := by simpa using h
    exact rA_bad
  | succ i => simp at h
set_option maxRecDepth 20000 in
set_option maxHeartbeats 8000000 in
theorem lawake_any (w : World) (hm : MaxAt w) : Calls Tryd.prog 11 #[] w fun e w' => e = .returned (.bool true) ∧ Below w.heap.size w w' := by
  have h1 := pparse1 w hm
  replace h1 := hide h1
  go_enter Tryd.func11, Tryd.ntmps11
  go_upto_region 1 with fail
  apply wp_region_lit
  refine wpList_plain rfl fun K hK => ?_
  go_simp
  refine (h1.out).mono ?_
  rintro e w1 ⟨rfl, hb1⟩
  replace hb1 := hide hb1
  go_simp
  refine hK _ _ ?_
  clear hK K
  iterate 3 (refine wpList_plain rfl fun K hK => ?_; go_simp; refine hK _ _ ?_; clear hK K)
  refine wpl_new rfl rfl 28 _ (alloc_pfx _ rfl) 1 rfl (.tmp 9) rfl _ (fun _ => rfl) (fun _ => rfl) rfl (by kernel_rfl) (p_one false 0 167772160 8) ?_
  intro w2 hg2 hb2 hz2
  have hB2 := hb1.out.trans (hb2.mono hb1.out.size)
  have hcg := blk_cell hg2
  clear hb1 hb2 hg2
  replace hB2 := hide hB2
  iterate 1 (refine wpList_plain rfl fun K hK => ?_; go_simp; refine hK _ _ ?_; clear hK K)
  refine wpList_nil ?_
  go_simp
  go_upto_region 2 with fail
  apply wp_region_lit
  iterate 4 (refine wpList_plain rfl fun K hK => ?_; go_simp; refine hK _ _ ?_; clear hK K)
  obtain ⟨w3, hw3⟩ : ∃ w3, w2.alloc (.cells (rulC rA).toArray 32) = w3 := ⟨_, rfl⟩
  have hb3 : Below w2.heap.size w2 w3 := hw3 ▸ (Below.refl _ _).alloc (Nat.le_refl _) _
  have hn3 : w3.heap[w2.heap.size]? = some (.cells (rulC rA).toArray 32 (0, 0)) := hw3 ▸ blk_new _ _ _
  change wpList _ _ _ _ _ (w2.alloc (.cells (rulC rA).toArray 32))
  rw [hw3]
  have hB3 := hB2.out.trans (hb3.mono hB2.out.size)
  have hN := lNew_any 1 1 (some ⟨w2.heap.size, 0, none⟩) [rA] rA_ok w3 (rul_lit hn3) (by omega)
  clear hw3 hb3 hn3 hB2 hcg
  replace hB3 := hide hB3
  replace hN := hide hN
  refine wpList_plain rfl fun K hK => ?_
  go_simp
  refine (hN.out).mono ?_
  rintro e w4 hE
  obtain ⟨hb4, hE⟩ := hE
  rcases hE with ⟨i, r, hr, hne, -, -⟩ | ⟨hgood, x, tg, N, rs, bs, gs, rfl, hL, hgl⟩
  · exact absurd (rA_key i r hr) hne
  have hB4 := hB3.out.trans (hb4.mono hB3.out.size)
  have q1 := fun (w : World) (H : Nat → Int) (h : LimC w w3.heap.size x tg N (keysOf (putsR [rA])) (([rA].length : Nat) : Int) rs bs [rA] gs [rA] (fun k => (H k, 0)) 0) (hH : ∀ (i : Nat) (r : Rul), [rA][i]? = some r → 0 ≤ H i ∧ H i ≤ r.m) => lTake_is w w3.heap.size x tg N _ rs bs [rA] gs H 0 h hgl (by simp) rA_ok rA_key hH aA ⟨by decide, by decide⟩ 1
  have q2 := fun (w : World) (H : Nat → Int) (h : LimC w w3.heap.size x tg N (keysOf (putsR [rA])) (([rA].length : Nat) : Int) rs bs [rA] gs [rA] (fun k => (H k, 0)) 0) => lOf_any x tg rs bs 0 aA ⟨by decide, by decide⟩ w N _ _ h.lim h.trie
  rw [rA_und] at q1
  rw [of_under [rA] rA_ok rA_key aA ⟨by decide, by decide⟩, rA_und] at q2
  have hHF := HF_le rA_key
  have hz3 := hB3.out.size
  clear hb4 hN hB3
  replace hB4 := hide hB4
  replace q1 := hide q1
  replace q2 := hide q2
  replace hHF := hide hHF
  replace hL := hide hL
  go_simp
  refine hK _ _ ?_
  clear hK K
  iterate 7 (refine wpList_plain rfl fun K hK => ?_; go_simp; refine hK _ _ ?_; clear hK K)
  refine wpList_nil ?_
  go_simp
  go_upto_region 3 with fail
  apply wp_region_lit
  iterate 1 (refine wpList_plain rfl fun K hK => ?_; go_simp; refine hK _ _ ?_; clear hK K)
  refine wpl_new rfl rfl 26 _ (alloc_adr _ rfl) 6 rfl (.tmp 20) rfl _ (fun _ => rfl) (fun _ => rfl) rfl (by kernel_rfl) (adr_one false 0 167837953) ?_
  intro w5 hg5 hb5 hz5
  have hL5 := hL.out.below hb5
  have hB5 := hB4.out.trans (hb5.mono hB4.out.size)
  have p1 := q1.out w5 (HF [rA]) hL5 hHF.out
  have hcg := blk_cell hg5
  have hgz := hL5.hgs
  have hni : w4.heap.size ∉ gs := fun hm => by have := hL.out.inB.gs _ hm; omega
  rw [show tkB (HF [rA]) (some 0) 1 = true by kernel_rfl] at p1
  clear hb5 hL hB4 hL5
  replace hB5 := hide hB5
  replace hg5 := hide hg5
  replace p1 := hide p1
  replace hgz := hide hgz
  replace hni := hide hni
  refine wpList_nil ?_
  go_simp
  go_upto_region 4 with fail
  go_wp2_with fail
  refine p1.out.mono ?_
  rintro e w6 ⟨rfl, hL6, hk6⟩
  have hB6 := hB5.out.trans (below_kept hk6 hB5.out.size (fun k hk => Nat.le_trans hz3 (hgz.out k hk)))
  have hg6 := (hk6.block _ hz5 hni.out).trans hg5.out
  have hz6 := Nat.lt_of_lt_of_le hz5 hk6.size
  have hH6 := tkH_le (some 0) 1 hHF.out
  have p2 := q1.out w6 _ hL6 hH6
  rw [show tkB (tkH (HF [rA]) (some 0) 1) (some 0) 1 = false by kernel_rfl] at p2
  clear hcg p1 hk6 hB5 hg5 hL6
  have hcg := blk_cell hg6
  replace hB6 := hide hB6
  replace hg6 := hide hg6
  replace p2 := hide p2
  replace hH6 := hide hH6
  go_wp2_with fail
  refine p2.out.mono ?_
  rintro e w7 ⟨rfl, hL7, hk7⟩
  have hB7 := hB6.out.trans (below_kept hk7 hB6.out.size (fun k hk => Nat.le_trans hz3 (hgz.out k hk)))
  have hg7 := (hk7.block _ hz6 hni.out).trans hg6.out
  have p3 := q2.out w7 _ hL7
  clear hcg p2 hk7 hB6 hg6 hL7
  have hcg := blk_cell hg7
  replace hB7 := hide hB7
  replace hg7 := hide hg7
  replace p3 := hide p3
  go_wp2_with fail
  refine p3.out.mono ?_
  rintro e w8 ⟨rfl, hb8⟩
  have hB8 := hB7.out.trans (hb8.mono hB7.out.size)
  clear hcg p3 hb8 hB7 hg7
  dsimp only [uL]
  replace hB8 := hide hB8
  go_wp2_with fail
  go_ret
  exact ⟨rfl, hB8.out⟩
end Addr05
end Go.Proofs.YtbcicbiphgeghaaDoor
/- The walk of LimitFull: it answers true. Condition: the cell of bytealg.MaxLen. -/
namespace Go.Proofs.YtbcicbiphgeghaaDoor
open Go.RowKit Go.ChangeShapes Go.WideShapes Go.ChangeAt Go.Deep
namespace Addr05
theorem wpl_lit_rul {w : World} {T : TypeId} {ops : Array Oper} {rest : List Oper} {o : Oper} {a : Act} {Q : Exit → Act → World → Prop} (hgd : o.guard = none) (s x : Operand)
    (ho : o.op = .call { callee := .builtin .append, args := #[s, x], argTypes := #[23, 23] })
    (base : Nat) (v : Value) (es : List Rul) (r : Rul) (hs : a.eval s = v) (hx : a.eval x = .slice (some ⟨w.heap.size, 0, none⟩) 1 1) (hown : OwnRul w base v es) (hbase : base ≤ w.heap.size) (hb : es.length + 1 ≤ 1099511627776)
    (h : ∀ v' w', OwnRul w' base v' (es ++ [r]) → Grew w v w' v' → wpList Tryd.prog ops Q rest (a.put o.dst v') w') : wpList Tryd.prog ops Q (o :: rest) a (w.alloc (.cells (rulC r).toArray T)) := by
  refine wpList_plain hgd fun K hK => ?_
  refine wp_app_rul s x ho base v es [r] (some ⟨w.heap.size, 0, none⟩) 1 1 _ hs hx (row_on hown ((Below.refl _ _).alloc (Nat.le_refl _) _)) (rul_lit (blk_new w T (rulC r).toArray)) (by simp; omega) hb fun v' w' h1 h2 => hK _ _ (h v' w' h1 ⟨grown_alloc_left h2.grown, ?_⟩)
  rcases h2.moved with h4 | ⟨k, h4, h5⟩
  · exact .inl h4
  · exact .inr ⟨k, h4, by simp at h5; omega⟩
def rF (i : Nat) : Rul := ⟨⟨false, 0, i⟩, 32, 0, 1⟩
def esF (m : Nat) : List Rul := (List.range m).map rF
theorem esF_len (m : Nat) : (esF m).length = m := by unfold esF; simp
theorem esF_succ (m : Nat) : esF (m + 1) = esF m ++ [rF m] := by unfold esF; rw [List.range_succ, List.map_append]; rfl
theorem esF_get (m j : Nat) (h : j < m) : (esF m)[j]? = some (rF j) := by unfold esF; simp [h]
theorem rF_right : (List.range 256).all (fun j => rightP ⟨false, 0, j⟩ 32) = true := by kernel_rfl
theorem esF_ok (m : Nat) (h : m ≤ 260) : ∀ r ∈ esF m, r.ok := by
  intro r hr
  obtain ⟨j, hj, rfl⟩ := List.mem_map.1 hr
  have := List.mem_range.1 hj
  refine ⟨⟨(by show (0 : Nat) < 18446744073709551616; decide), ?_⟩, (by show -9223372036854775808 ≤ (32 : Int) ∧ (32 : Int) ≤ 9223372036854775807; decide), (by show -9223372036854775808 ≤ (0 : Int) ∧ (0 : Int) ≤ 9223372036854775807; decide), (by show -9223372036854775808 ≤ (1 : Int) ∧ (1 : Int) ≤ 9223372036854775807; decide)⟩
  show j < 18446744073709551616
  omega
theorem esF_bad (m j : Nat) (h : j < m) (r : Rul) (hr : (esF m)[j]? = some r) : badC (esF m) j r = if 256 ≤ j then 6 else 0 := by
  rw [esF_get m j h] at hr
  cases hr
  unfold badC
  by_cases h1 : 256 ≤ j
  · rw [if_pos h1, if_pos h1]
  · rw [if_neg h1, if_neg h1]
    have h2 := List.all_eq_true.1 rF_right j (List.mem_range.2 (by omega))
    rw [if_neg (by rw [show rightP (rF j).p (rF j).i = true from h2]; simp), if_neg (by rw [show rightR (rF j).e (rF j).m = true from rfl]; simp), if_neg]
    unfold atL
    rw [List.findIdx?_eq_none_iff.2]
    · decide
    · intro x hx
      obtain ⟨k, hk⟩ := List.mem_iff_getElem?.1 hx
      rw [List.getElem?_take] at hk
      split at hk
      · rename_i hkj
        rw [esF_get m k (by omega)] at hk
        cases hk
        rw [decide_eq_false_iff_not]
        rintro ⟨e, -⟩
        have := congrArg Adr.lo e
        have e2 : k = j := this
        omega
      · cases hk
set_option maxRecDepth 20000 in
set_option maxHeartbeats 8000000 in
theorem lfull_walk (n : Int) (w : World) (hm : MaxAt w) : Calls Tryd.prog 3 #[.int .i64 n] w fun e w' => e = .returned (.bool true) ∧ Below w.heap.size w w' := by
  have hA := fun w => lawake_any w
  by_cases h1 : n < 250
  · have p := hA w hm
    replace hA := hide hA
    replace p := hide p
    go_enter Tryd.func3, Tryd.ntmps3
    go_wp2_with fail
    refine p.out.mono ?_
    rintro e w1 ⟨rfl, hb1⟩
    replace hb1 := hide hb1
    go_wp2_with fail
    go_ret
    exact ⟨rfl, hb1.out⟩
  · by_cases h2 : 260 < n
    · have p := hA w hm
      replace hA := hide hA
      replace p := hide p
      go_enter Tryd.func3, Tryd.ntmps3
      go_wp2_with fail
      refine p.out.mono ?_
      rintro e w1 ⟨rfl, hb1⟩
      replace hb1 := hide hb1
      go_wp2_with fail
      go_ret
      exact ⟨rfl, hb1.out⟩
    · obtain ⟨m, rfl⟩ : ∃ m : Nat, n = (m : Int) := ⟨n.toNat, by omega⟩
      replace hA := hide hA
      replace hm := hide hm
      go_enter Tryd.func3, Tryd.ntmps3
      go_wp2_with fail
      go_loopw [3, 4] (fun v iv wr => ∃ i : Nat, i ≤ m ∧ iv = .int .i64 (i : Int) ∧ OwnRul wr w.heap.size v (esF i) ∧ Below w.heap.size w wr) (fun _ iv _ => m - (intOf iv).toNat)
      case atStart => exact ⟨0, by omega, rfl, World.ownsRow_nil _ _ _ _, Below.refl _ _⟩
      case round =>
        obtain ⟨i, hi, rfl, ho, hb⟩ := hrel
        by_cases him : i < m
        · have hlt : (i : Int) < (m : Int) := by omega
          have wi : IntKind.u64.wrap (i : Int) = (i : Int) := wrapsu64 _ (by omega) (by omega)
          obtain ⟨A, c, hv, -, -, -⟩ := own_isv ho
          rw [esF_len] at hv
          subst hv
          replace ho := hide ho
          replace hb := hide hb
          go_upto_region 7 with fail
          apply wp_region_lit
          iterate 8 (refine wpList_plain rfl fun K hK => ?_; go_simp; refine hK _ _ ?_; clear hK K)
          change wpList _ _ _ _ _ (wr.alloc (.cells (rulC (rF i)).toArray 32))
          refine wpl_lit_rul rfl (.tmp 20) (.tmp 27) rfl w.heap.size _ (esF i) (rF i) rfl rfl ho.out hb.out.size (by rw [esF_len]; omega) fun v2 w2 h3 h4 => ?_
          have hb2 := hb.out.trans (below_of_grown h4.grown hb.out.size fun k hk => (World.ownsRow.lt ho.out k hk).1)
          rw [← esF_succ] at h3
          clear h4 ho hb
          replace h3 := hide h3
          replace hb2 := hide hb2
          iterate 1 (refine wpList_plain rfl fun K hK => ?_; go_simp; refine hK _ _ ?_; clear hK K)
          refine wpList_nil ?_
          go_simp
          go_wp2_with fail
          exact ⟨⟨i + 1, by omega, by first | rfl | go_num, h3.out, hb2.out⟩, by simp only [intOf]; omega⟩
        · obtain rfl : i = m := by omega
          have hlt : ((i : Int) < (i : Int)) = False := by simp
          obtain ⟨A, c, hv, hnc, hcm, hx⟩ := own_isv ho
          rw [esF_len] at hv hx
          subst hv
          have hN := lNew_any i c A (esF i) (esF_ok i (by omega)) wr ⟨esF_len i, hx⟩ (by omega)
          replace hb := hide hb
          replace hN := hide hN
          go_wp2_with fail
          refine hN.out.mono ?_
          rintro e w4 ⟨hb4, hE⟩
          have hB4 := hb.out.trans (hb4.mono hb.out.size)
          have p := hA.out w4 (hm.out.below hB4)
          clear hN hb4
          by_cases h256 : 256 < i
          · obtain rfl : e = .returned (.tuple #[.pointer none, .int .i64 256, .int .i64 6]) := by
              rcases hE with ⟨j, r, hr, hne, hall, rfl⟩ | ⟨hgood, -⟩
              · have hjl : j < i := by have := (List.getElem?_eq_some_iff.1 hr).1; rwa [esF_len] at this
                have h5 := esF_bad i j hjl r hr
                have h6 : j = 256 := by
                  rcases Nat.lt_trichotomy j 256 with h | h | h
                  · rw [if_neg (by omega)] at h5; exact absurd h5 hne
                  · exact h
                  · have h7 := hall 256 _ h (esF_get i 256 h256)
                    rw [esF_bad i 256 h256 _ (esF_get i 256 h256)] at h7
                    cases h7
                subst h6
                rw [h5]
                rfl
              · have h7 := hgood 256 _ (esF_get i 256 h256)
                rw [esF_bad i 256 h256 _ (esF_get i 256 h256)] at h7
                cases h7
            have i1 : (256 : Int) < (i : Int) := by omega
            clear hE
            replace hB4 := hide hB4
            replace p := hide p
            go_wp2_with fail
            refine p.out.mono ?_
            rintro e w5 ⟨rfl, hb5⟩
            have hB5 := hB4.out.trans (hb5.mono hB4.out.size)
            replace hB5 := hide hB5
            go_wp2_with fail
            go_ret
            exact ⟨rfl, hB5.out⟩
          · obtain ⟨x, rfl⟩ : ∃ x, e = .returned (.tuple #[.pointer (some ⟨x, 0, none⟩), .int .i64 0, .int .i64 0]) := by
              rcases hE with ⟨j, r, hr, hne, -, -⟩ | ⟨-, x, tg, N, rs, bs, gs, rfl, -⟩
              · have hjl : j < i := by have := (List.getElem?_eq_some_iff.1 hr).1; rwa [esF_len] at this
                have h5 := esF_bad i j hjl r hr
                rw [if_neg (by omega)] at h5
                exact absurd h5 hne
              · exact ⟨x, rfl⟩
            have i1 : ¬ (256 : Int) < (i : Int) := by omega
            clear hE
            replace hB4 := hide hB4
            replace p := hide p
            go_wp2_with fail
            refine p.out.mono ?_
            rintro e w5 ⟨rfl, hb5⟩
            have hB5 := hB4.out.trans (hb5.mono hB4.out.size)
            replace hB5 := hide hB5
            go_wp2_with fail
            go_ret
            exact ⟨rfl, hB5.out⟩
theorem lfull_row (n : Int) (w : World) (_ : (Lit.int .i64 n).wf = true) (hm : MaxAt w) : Calls Tryd.prog 3 #[.int .i64 n] w fun e w' => e = .returned (.bool true) ∧ Below w.heap.size w w' := lfull_walk n w hm
end Addr05
end Go.Proofs.YtbcicbiphgeghaaDoor
/- A row that lists variables, met: the wrap that keeps what they hold and the world's shape; the cell of bytealg.MaxLen. No condition. -/
namespace Go.Proofs.YtbcicbiphgeghaaDoor
open Go.RowKit Go.ChangeShapes Go.WideShapes Go.ChangeAt Go.Deep
theorem returns_laid {H : Type} {enc : TypeId × Value → H} {a : Assume} {C : Checked} {os : Os} {f : FuncId} {fn : Func} {s : ChangeSpec} {conds : List PathCond} {apart fresh handsOn again : Bool} {X : World → Array Value → Prop}
    (hX : ∀ (w w' : World) (args : Array Value), w.heap = w'.heap → X w args → X w' args)
    (own : ownKnob C.prog.godebug = none) (started : os.Started) (noInit : C.prog.inits.idxOf? f = none) (hfn : C.prog.funcs[f]? = some fn)
    (witness : ∃ (w : World) (tape : Tape) (i : Input), w.os = os ∧ (w.forCall tape i).Shaped C.prog ∧ i.vars = [] ∧ Input.okWide C.prog (w.forCall tape i) .any w.heap.size f i ∧
      ((s.pre enc C.prog fn conds apart (w.forCall tape i).memory i.args ∧ X (w.forCall tape i).memory i.args) ∧ sizedMet enc C.prog fn (OpenSpec.ofChange s) apart (w.forCall tape i).memory i.args) ∧ a.holds C.prog (lone (Frame.enter C.prog f i.args .normal) [] (w.forCall tape i)))
    (contract : ∀ (W : World) (base : Nat) (args : Array Value) (ds gs : List (DataW H)) (before : List MemPlace),
      (∀ (j : Nat) t v, fn.params[j]? = some t → args[j]? = some v → Value.okWide C.prog W .any base t v) →
      DataW.Whole enc C.prog fn.params.toList s.vars apart W args.toList ds gs before →
      conds.all (PathCond.test C.prog ⟨fn.params.toList, ds, s.plain.varTypes C.prog, gs⟩) = true →
      X W args → W.ShapedOpen C.prog →
      Calls C.prog f args W fun e W' => ∃ v, e = .returned v ∧ s.post enc C.prog fn apart fresh handsOn again W args v W') :
    ReturnsInHanded a C os f .any (fun w args => (s.pre enc C.prog fn conds apart w args ∧ X w args) ∧ sizedMet enc C.prog fn (OpenSpec.ofChange s) apart w args) (s.post enc C.prog fn apart fresh handsOn again) := by
  refine returnsInHanded_of_calls own started noInit witness ?_
  intro w tape i _ hsh _ hok hpre _
  obtain ⟨_, _, _, fn', hfn', _, _, _, _, hval⟩ := hok
  have e : fn' = fn := Option.some.inj (hfn'.symm.trans hfn)
  subst e
  obtain ⟨⟨⟨ds, gs, before, hw, hc⟩, hx⟩, _⟩ := hpre
  have hw' := DataW.Whole.of_heap (w' := w.forCall tape i) (by rfl) hw
  refine (contract (w.forCall tape i) w.heap.size i.args ds gs before hval hw' hc (hX _ _ _ (by rfl) hx) hsh).mono fun e W' ⟨v, he, hp⟩ => ?_
  subst he
  exact ChangeSpec.post_blind hp
theorem maxAt_of {w : World} (h : w.ShapedOpen Tryd.prog) : Addr05.MaxAt w :=
  cell_of_shapedOpen_int (t := 3) (zero := #[.int .i64 0]) h (of_decide_eq_true (by kernel_rfl)) (by kernel_rfl) rfl (by kernel_rfl) (by kernel_rfl) Tryd.underlying3
end Go.Proofs.YtbcicbiphgeghaaDoor
