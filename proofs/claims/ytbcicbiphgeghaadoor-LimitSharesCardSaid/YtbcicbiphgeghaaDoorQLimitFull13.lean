/- limit: New: limits by rules, or which rule is wrong. Conditions: numbers of 64 bits, at most 2^40 rules. -/
import Derived.Test.YtbcicbiphgeghaaDoorQLimitFull12
import Derived.Test.YtbcicbiphgeghaaDoorQLimitFull10
namespace Go.Proofs.YtbcicbiphgeghaaDoor
open Go.RowKit Go.ChangeShapes Go.WideShapes Go.ChangeAt Go.Deep
namespace Addr05
def N0t (g : Nat) : Nodes := fun p => if p = [0] then some ⟨g, 0, none⟩ else if p = [1] then some ⟨g, 4, none⟩ else none
theorem trie_newL (w : World) (g : Nat) (h : w.heap[g]? = some (.cells #[.pointer none, .pointer none, .int .i64 0, .bool false, .pointer none, .pointer none, .int .i64 0, .bool false, .int .i64 0] 120 (0, 0))) : TrieAt w g (N0t g) (fun _ => none) 0 := by
  have hN : ∀ p a, N0t g p = some a → (p = [0] ∧ a = ⟨g, 0, none⟩) ∨ (p = [1] ∧ a = ⟨g, 4, none⟩) := by
    intro p a hp
    unfold N0t at hp
    split at hp
    · cases hp; exact .inl ⟨by assumption, rfl⟩
    · split at hp
      · cases hp; exact .inr ⟨by assumption, rfl⟩
      · cases hp
  have hl : ∀ p b, p ≠ [] → N0t g (p ++ [b]) = none := by
    intro p b hp
    unfold N0t
    have h1 : ∀ c : Nat, p ++ [b] ≠ [c] := fun c e => by
      have := congrArg List.length e
      simp at this
      exact hp this
    rw [if_neg (h1 0), if_neg (h1 1)]
  refine ⟨?_, fun p b hp _ => hl p b hp, fun _ _ => rfl, ?_, ?_, ?_, ?_, ⟨_, h, rfl, rfl⟩⟩
  · intro v hv
    have : v = 0 ∨ v = 1 := by omega
    rcases this with rfl | rfl <;> rfl
  · intro p a hp
    rcases hN p a hp with ⟨rfl, rfl⟩ | ⟨rfl, rfl⟩
    · exact ⟨rfl, _, _, h, by simp, by rw [hl _ _ (by simp)]; rfl, by rw [hl _ _ (by simp)]; rfl, rfl, rfl⟩
    · exact ⟨rfl, _, _, h, by simp, by rw [hl _ _ (by simp)]; rfl, by rw [hl _ _ (by simp)]; rfl, rfl, rfl⟩
  · intro p q a c hp hq hne _
    rcases hN p a hp with ⟨rfl, rfl⟩ | ⟨rfl, rfl⟩ <;> rcases hN q c hq with ⟨rfl, rfl⟩ | ⟨rfl, rfl⟩
    · exact absurd rfl hne
    · left; exact Nat.le_refl 4
    · right; exact Nat.le_refl 4
    · exact absurd rfl hne
  · intro p a hp _
    rcases hN p a hp with ⟨rfl, rfl⟩ | ⟨rfl, rfl⟩
    · exact (by omega : 0 + 4 ≤ 8)
    · exact Nat.le_refl 8
  · intro p a hp
    rcases hN p a hp with ⟨rfl, rfl⟩ | ⟨rfl, rfl⟩ <;> exact Nat.le_refl _
theorem info_rul : (Tryd.prog.info? 32).map (fun i => (i.zero, i.size, i.bytes)) = some (some (.agg #[.bool false, .int .u64 0, .int .u64 0, .int .i64 0, .int .i64 0, .int .i64 0]), 6, 48) := by kernel_rfl
theorem info_bkp : (Tryd.prog.info? 52).map (fun i => (i.zero, i.size, i.bytes)) = some (some (.pointer none), 1, 8) := by kernel_rfl
theorem rulC_one (es : List Rul) : ∀ u ∈ (es.map rulC).flatten, u.oneCell' = true := by
  intro u hu
  obtain ⟨l, hl, hu⟩ := List.mem_flatten.1 hu
  obtain ⟨r, _, rfl⟩ := List.mem_map.1 hl
  simp only [rulC, List.mem_cons, List.not_mem_nil, or_false] at hu
  rcases hu with rfl | rfl | rfl | rfl | rfl | rfl <;> rfl
/-- append of rules. -/
theorem wp_app_rul {w : World} {o : Oper} {a : Act} {K : Act → World → Prop} {Q : Exit → Act → World → Prop} (s x : Operand)
    (ho : o.op = .call { callee := .builtin .append, args := #[s, x], argTypes := #[23, 23] })
    (base : Nat) (v : Value) (es us : List Rul) (A : Option Addr) (m c B : Nat) (hs : a.eval s = v) (hx : a.eval x = .slice A m c) (hown : OwnRul w base v es) (hr : IsT rulC 6 w B A m us) (hbase : base ≤ w.heap.size) (hb : es.length + m ≤ 1099511627776)
    (h : ∀ v' w', OwnRul w' base v' (es ++ us) → Grew w v w' v' → K (a.put o.dst v') w') : o.wp Tryd.prog a w K Q := by
  obtain ⟨i, hi1, hz1, hsz, hb1⟩ := info_parts info_rul
  have hm : us.length = m := hr.1
  refine wp_append_isv w s x 23 ho base 32 i _ 6 48 Tryd.underlying23 hi1 hz1 hsz hb1 rfl (by omega) v es.length _ hs hown B A m c _ hx hr.2 (rulC_one us) (by unfold maxLen; omega) (by omega) hbase fun v' w' h1 h2 h3 => h v' w' ?_ ⟨h2, moved_mk' h3⟩
  rw [← List.flatten_append, ← List.map_append, ← hm, ← List.length_append] at h1
  exact h1
theorem rul_lit {w : World} {b : Nat} {r : Rul} {t : TypeId} (h : w.heap[b]? = some (.cells (rulC r).toArray t (0, 0))) : IsT rulC 6 w w.heap.size (some ⟨b, 0, none⟩) 1 [r] := by
  refine ⟨rfl, rfl, fun _ => ⟨b, 0, rfl, lt_of_blk h, fun i hi => ?_⟩⟩
  rw [blk_cell h (0 + i), Nat.zero_add]
  have e : ([r].map rulC).flatten = rulC r := by simp
  simp only [e]
  rw [List.getElem?_toArray, List.getElem?_eq_getElem]
theorem at_fresh (es : List Rul) (i : Nat) (r : Rul) (hneg : atL (es.take i) r.p r.i < 0) : freshB (putsR es) i ⟨r.p, r.i, (i : Int)⟩ = true := by
  have hall : ∀ x ∈ es.take i, ¬ (x.p = r.p ∧ x.i = r.i) := by
    intro x hx
    unfold atL at hneg
    split at hneg
    · omega
    · rename_i h
      have := List.findIdx?_eq_none_iff.1 h x hx
      simpa using this
  unfold freshB
  rw [List.all_eq_true]
  intro d hd
  obtain ⟨j, hj⟩ := List.mem_iff_getElem?.1 hd
  rw [List.getElem?_take] at hj
  split at hj
  · rename_i hji
    have hjl : j < es.length := by
      have := (List.getElem?_eq_some_iff.1 hj).1
      rwa [putsR_len] at this
    have h1 : es[j]? = some (es[j]) := List.getElem?_eq_getElem hjl
    rw [putsR_get h1] at hj
    cases hj
    have h2 : es[j] ∈ es.take i := List.mem_of_getElem? (i := j) (by rw [List.getElem?_take, if_pos hji, h1])
    have h3 := hall _ h2
    dsimp only
    rw [Bool.not_eq_true', decide_eq_false_iff_not]
    exact h3
  · cases hj
theorem puts_ok (es : List Rul) (hok : ∀ r ∈ es, r.ok) : ∀ e ∈ putsR es, e.p.ok := by
  intro e he
  obtain ⟨j, hj⟩ := List.mem_iff_getElem?.1 he
  have hjl : j < es.length := by
    have := (List.getElem?_eq_some_iff.1 hj).1
    rwa [putsR_len] at this
  have h1 : es[j]? = some (es[j]) := List.getElem?_eq_getElem hjl
  rw [putsR_get h1] at hj
  cases hj
  exact (hok _ (List.getElem_mem hjl)).1
/-- What the trie holds with one rule more. -/
theorem keys_more (es : List Rul) (hok : ∀ r ∈ es, r.ok) (i : Nat) (r : Rul) (hri : es[i]? = some r) (hr : rightP r.p r.i = true) (hneg : atL (es.take i) r.p r.i < 0) :
    ∃ k : Nat, r.i = (k : Int) ∧ (keysOf ((putsR es).take i) (pkey r.p k)).isSome = false ∧ keysOf ((putsR es).take (i + 1)) = upd (keysOf ((putsR es).take i)) (pkey r.p k) (i : Int) := by
  have h0 : 0 ≤ r.i := by
    rcases Int.lt_or_le r.i 0 with h | h
    · rw [right_no2 _ _ h] at hr; cases hr
    · exact h
  obtain ⟨k, hk⟩ : ∃ k : Nat, r.i = (k : Int) := ⟨r.i.toNat, by omega⟩
  have hf := fresh_keys (putsR es) i ⟨r.p, r.i, (i : Int)⟩ (puts_ok es hok) (hok r (List.mem_of_getElem? hri)).1 hr
  rw [at_fresh es i r hneg] at hf
  have hkey : (PutE.mk r.p r.i (i : Int)).key = pkey r.p k := by unfold PutE.key; rw [hk, Int.toNat_natCast]
  rw [hkey] at hf
  refine ⟨k, hk, by simpa using hf.symm, ?_⟩
  rw [keysOf_snoc (putsR es) i _ (putsR_get hri)]
  unfold stepM
  rw [if_pos (show (PutE.mk r.p r.i (i : Int)).right = true from hr), hkey]
/-- What New makes of rules. -/
def NewEnd (es : List Rul) (w w' : World) (e : Ending) : Prop :=
  Below w.heap.size w w' ∧
  ((∃ (i : Nat) (r : Rul), es[i]? = some r ∧ badC es i r ≠ 0 ∧ (∀ (j : Nat) (r' : Rul), j < i → es[j]? = some r' → badC es j r' = 0) ∧ e = .returned (.tuple #[.pointer none, .int .i64 (i : Int), .int .i64 (badC es i r)])) ∨
   ((∀ (j : Nat) (r' : Rul), es[j]? = some r' → badC es j r' = 0) ∧ ∃ x tg N rs bs gs, e = .returned (.tuple #[.pointer (some ⟨x, 0, none⟩), .int .i64 0, .int .i64 0]) ∧ LimC w' w.heap.size x tg N (keysOf (putsR es)) (es.length : Int) rs bs es gs es (stF es) 0 ∧ gs.length = es.length))
/-- Where New's loop stands. -/
def NewAt (es : List Rul) (n x tg : Nat) (w wr : World) (i : Nat) : Prop :=
  (∀ (j : Nat) (r' : Rul), j < i → es[j]? = some r' → badC es j r' = 0) ∧ Below w.heap.size w wr ∧ ∃ N rs bs gs, LimC wr w.heap.size x tg N (keysOf ((putsR es).take i)) (i : Int) rs bs (es.take i) gs es (stF es) 0 ∧ gs.length = i
set_option maxRecDepth 20000 in
set_option maxHeartbeats 8000000 in
theorem lNew_any (n c : Nat) (A : Option Addr) (es : List Rul) (hok : ∀ r ∈ es, r.ok) (w : World) (hx : IsT rulC 6 w w.heap.size A n es) (hn : n ≤ 1099511627776) :
    Calls Tryd.prog 12 #[.slice A n c] w fun e w' => NewEnd es w w' e := by
  have hlen := hx.1
  obtain ⟨w1, hw1⟩ : ∃ w1, (w.alloc (.cells #[.pointer none, .pointer none, .int .i64 0, .bool false, .pointer none, .pointer none, .int .i64 0, .bool false, .int .i64 0] 120)).alloc (.cells #[.pointer (some ⟨w.heap.size, 0, none⟩), .slice none 0 0, .slice none 0 0, .int .i64 0] 47) = w1 := ⟨_, rfl⟩
  have hB1 : Below w.heap.size w w1 := hw1 ▸ ((Below.refl _ _).alloc (Nat.le_refl _) _).alloc (by simp) _
  have hT1 : w1.heap[w.heap.size]? = some (.cells #[.pointer none, .pointer none, .int .i64 0, .bool false, .pointer none, .pointer none, .int .i64 0, .bool false, .int .i64 0] 120 (0, 0)) := by
    rw [← hw1]
    exact blk_old _ (by simp) (blk_new _ _ _)
  have hl1 : limAt w1 (w.heap.size + 1) w.heap.size (.slice none 0 0) (.slice none 0 0) 0 := by
    have h := blk_new (w.alloc (.cells #[.pointer none, .pointer none, .int .i64 0, .bool false, .pointer none, .pointer none, .int .i64 0, .bool false, .int .i64 0] 120)) 47 #[.pointer (some ⟨w.heap.size, 0, none⟩), .slice none 0 0, .slice none 0 0, .int .i64 0]
    rw [hw1, World.size_alloc] at h
    exact h
  have hstart : NewAt es n (w.heap.size + 1) w.heap.size w w1 0 := by
    have ht := trie_newL w1 w.heap.size hT1
    refine ⟨fun j r' hj => by omega, hB1, N0t w.heap.size, _, _, [], ⟨hl1, ht, World.ownsRow_nil _ _ _ _, OwnR.nil _ _, fun k g h => by simp at h, fun i j g h => by simp at h, by omega, fun g h => by simp at h, ?_⟩, rfl⟩
    rintro k ⟨p, a, hp, rfl⟩
    have h1 := ht.ge p a hp
    have h2 : a.block = w.heap.size := by
      unfold N0t at hp
      split at hp
      · cases hp; rfl
      · split at hp
        · cases hp; rfl
        · cases hp
    refine ⟨by omega, by omega, by simp, ?_, ?_⟩ <;> (intro e; cases e)
  obtain ⟨x, hxx⟩ : ∃ x, w.heap.size + 1 = x := ⟨_, rfl⟩
  rw [hxx] at hstart
  have hz1 : w.heap.size ≤ w1.heap.size := hB1.size
  clear hT1 hl1 hB1
  replace hx := hide hx
  replace hok := hide hok
  replace hstart := hide hstart
  go_enter Tryd.func12, Tryd.ntmps12
  go_upto_region 2 with fail
  clear hw1 hxx
  go_wp2_with fail
  go_loopw [6, 7, 8, 9, 16] (fun _ _ _ _ iv wr => ∃ i : Nat, i ≤ n ∧ iv = .int .i64 (i : Int) ∧ NewAt es n x w.heap.size w wr i) (fun _ _ _ _ iv _ => n - (intOf iv).toNat)
  case atStart => exact ⟨0, by omega, rfl, hstart.out⟩
  case round =>
    obtain ⟨i, hi', rfl, hbad, hB, N, rs, bs, gs, hL, hgl⟩ := hrel
    by_cases hil : i < n
    · have hlt : (i : Int) < (n : Int) := by omega
      have hzr := hB.size
      obtain ⟨bk, off, r, rfl, hbk, hri, hcell⟩ := (hx.out.below hB).at rulC_len (by omega) hil
      obtain ⟨⟨h61, h62⟩, ⟨h63, h64⟩, ⟨h65, h66⟩, ⟨h67, h68⟩⟩ := hok.out r (List.mem_of_getElem? hri)
      have c0 : wr.cell? ⟨bk, off + i * 6, none⟩ = some (.bool r.p.v6) := hcell 0 _ rfl
      have c1' : wr.cell? ⟨bk, off + i * 6 + 1, none⟩ = some (.int .u64 (r.p.hi : Int)) := hcell 1 _ rfl
      have c2' : wr.cell? ⟨bk, off + i * 6 + 2, none⟩ = some (.int .u64 (r.p.lo : Int)) := hcell 2 _ rfl
      have c3' : wr.cell? ⟨bk, off + i * 6 + 3, none⟩ = some (.int .i64 r.i) := hcell 3 _ rfl
      have c4' : wr.cell? ⟨bk, off + i * 6 + 4, none⟩ = some (.int .i64 r.e) := hcell 4 _ rfl
      have c5' : wr.cell? ⟨bk, off + i * 6 + 5, none⟩ = some (.int .i64 r.m) := hcell 5 _ rfl
      clear hcell
      obtain ⟨A2, c2, hrs, -, -, -⟩ := own_isv hL.rules
      obtain ⟨A3, c3, hbs, -, -, -⟩ := own_isv hL.row
      have htl : (es.take i).length = i := by rw [List.length_take]; omega
      rw [htl] at hrs
      rw [hgl] at hbs
      subst hrs hbs
      have hrz : (Value.slice A2 i c2).ownBlock ≠ some wr.heap.size := fun e => by
        have := (World.ownsRow.lt hL.rules _ e).2
        omega
      have htk : es.take i ++ [r] = es.take (i + 1) := by rw [List.take_add_one, hri]; rfl
      have hst : stF es i = (r.m, 0) := by unfold stF; rw [hri]; rfl
      have hnz : ¬ isNode N wr.heap.size := fun hn => by have := hL.tlt hn; omega
      replace hbad := hide hbad
      replace hB := hide hB
      replace hL := hide hL
      replace hri := hide hri
      replace hnz := hide hnz
      replace hrz := hide hrz
      replace htk := hide htk
      replace hst := hide hst
      go_upto_region 4 with fail
      apply wp_region_lit
      iterate 3 (refine wpList_plain rfl fun K hK => ?_; go_simp; refine hK _ _ ?_; clear hK K)
      refine wpl_newm rfl rfl rfl 32 _ (alloc_rul _ rfl) 7 6 rfl rfl (.int .i64 (i : Int)) (fun _ => rfl) (.tmp 20) rfl _ (fun _ => rfl) (fun _ => rfl) rfl (by kernel_rfl) (rul_one r.p.v6 (r.p.hi : Int) (r.p.lo : Int) r.i r.e r.m) ?_
      intro w4 hg4 hb4 hz4
      refine wpList_nil ?_
      go_simp
      have hL4 := hL.out.below hb4
      have hB4 := hB.out.trans (hb4.mono hzr)
      have hcg := blk_cell hg4
      clear c0 c1' c2' c3' c4' c5' hb4 hL hB
      by_cases h256 : 256 ≤ i
      · have i1 : (256 : Int) ≤ (i : Int) := by omega
        have hbc : badC es i r = 6 := by unfold badC; rw [if_pos h256]
        clear hg4 hL4
        replace hB4 := hide hB4
        replace hbc := hide hbc
        go_wp2_with fail
        refine bodyPost_ret (v := .tuple #[.pointer none, .int .i64 (i : Int), .int .i64 6]) (by simp [results, Tryd.results12, go_sem]) rfl ?_
        exact ⟨hB4.out, .inl ⟨i, r, hri.out, by rw [hbc.out]; decide, hbad.out, by rw [hbc.out]⟩⟩
      · have i1 : ¬ (256 : Int) ≤ (i : Int) := by omega
        have qR := pRight_any r.p ⟨h61, h62⟩ r.i w4
        obtain ⟨RP, hRP⟩ : ∃ b, rightP r.p r.i = b := ⟨_, rfl⟩
        rw [hRP] at qR
        unfold pArr at qR
        replace hB4 := hide hB4
        replace hL4 := hide hL4
        replace hg4 := hide hg4
        replace qR := hide qR
        replace hRP := hide hRP
        go_wp2_with fail
        refine (qR.out).mono ?_
        rintro e w5 ⟨rfl, hb5⟩
        have hL5 := hL4.out.below hb5
        have hB5 := hB4.out.trans (hb5.mono hB4.out.size)
        have hg5 := blk_below hb5 hz4 hg4.out
        have hz5 := Nat.lt_of_lt_of_le hz4 hb5.size
        clear hcg qR hL4 hB4 hg4 hb5
        cases RP
        · have hbc : badC es i r = 18 := by unfold badC; rw [if_neg h256, if_pos hRP.out]
          clear hL5 hg5
          replace hB5 := hide hB5
          replace hbc := hide hbc
          go_wp2_with fail
          refine bodyPost_ret (v := .tuple #[.pointer none, .int .i64 (i : Int), .int .i64 18]) (by simp [results, Tryd.results12, go_sem]) rfl ?_
          exact ⟨hB5.out, .inl ⟨i, r, hri.out, by rw [hbc.out]; decide, hbad.out, by rw [hbc.out]⟩⟩
        · have hcg := blk_cell hg5
          have qr := rRight_any r.e r.m w5
          obtain ⟨RR, hRR⟩ : ∃ b, rightR r.e r.m = b := ⟨_, rfl⟩
          rw [hRR] at qr
          replace hB5 := hide hB5
          replace hL5 := hide hL5
          replace hg5 := hide hg5
          replace qr := hide qr
          replace hRR := hide hRR
          go_wp2_with fail
          refine (qr.out).mono ?_
          rintro e w6 ⟨rfl, hb6⟩
          have hL6 := hL5.out.below hb6
          have hB6 := hB5.out.trans (hb6.mono hB5.out.size)
          have hg6 := blk_below hb6 hz5 hg5.out
          have hz6 := Nat.lt_of_lt_of_le hz5 hb6.size
          clear hcg qr hL5 hB5 hg5 hb6
          cases RR
          · have hbc : badC es i r = 5 := by unfold badC; rw [if_neg h256, if_neg (by rw [hRP.out]; simp), if_pos hRR.out]
            clear hL6 hg6
            replace hB6 := hide hB6
            replace hbc := hide hbc
            go_wp2_with fail
            refine bodyPost_ret (v := .tuple #[.pointer none, .int .i64 (i : Int), .int .i64 5]) (by simp [results, Tryd.results12, go_sem]) rfl ?_
            exact ⟨hB6.out, .inl ⟨i, r, hri.out, by rw [hbc.out]; decide, hbad.out, by rw [hbc.out]⟩⟩
          · have hcg := blk_cell hg6
            have hx6 : IsT rulC 6 w6 w6.heap.size A2 i (es.take i) := by
              obtain ⟨A', c', e', -, -, hv'⟩ := own_isv hL6.rules
              rw [htl] at e' hv'
              cases e'
              exact ⟨htl, hv'⟩
            have qa := lAt_any x w.heap.size i c2 A2 _ 0 (es.take i) r.p r.i w6 hL6.lim hx6 (by omega)
            obtain ⟨X, hX⟩ : ∃ b, atL (es.take i) r.p r.i = b := ⟨_, rfl⟩
            rw [hX] at qa
            unfold pArr at qa
            clear hx6
            replace hB6 := hide hB6
            replace hL6 := hide hL6
            replace hg6 := hide hg6
            replace qa := hide qa
            replace hX := hide hX
            go_wp2_with fail
            refine (qa.out).mono ?_
            rintro e w7 ⟨rfl, hb7⟩
            have hL7 := hL6.out.below hb7
            have hB7 := hB6.out.trans (hb7.mono hB6.out.size)
            have hg7 := blk_below hb7 hz6 hg6.out
            have hz7 := Nat.lt_of_lt_of_le hz6 hb7.size
            clear hcg qa hL6 hB6 hg6 hb7
            by_cases hX0 : 0 ≤ X
            · have hbc : badC es i r = 8 := by unfold badC; rw [if_neg h256, if_neg (by rw [hRP.out]; simp), if_neg (by rw [hRR.out]; simp), if_pos (by rw [hX.out]; exact hX0)]
              clear hL7 hg7
              replace hB7 := hide hB7
              replace hbc := hide hbc
              go_wp2_with fail
              refine bodyPost_ret (v := .tuple #[.pointer none, .int .i64 (i : Int), .int .i64 8]) (by simp [results, Tryd.results12, go_sem]) rfl ?_
              exact ⟨hB7.out, .inl ⟨i, r, hri.out, by rw [hbc.out]; decide, hbad.out, by rw [hbc.out]⟩⟩
            · have hbc : badC es i r = 0 := by unfold badC; rw [if_neg h256, if_neg (by rw [hRP.out]; simp), if_neg (by rw [hRR.out]; simp), if_neg (by rw [hX.out]; exact hX0)]
              have hcg := blk_cell hg7
              have qn := rNew_ok r.e r.m w7 hRR.out
              replace hB7 := hide hB7
              replace hL7 := hide hL7
              replace hg7 := hide hg7
              replace qn := hide qn
              replace hbc := hide hbc
              go_wp2_with fail
              refine (qn.out).mono ?_
              rintro e w8 ⟨g, rfl, hb8, hk8, hgz, hgs⟩
              have hL8 := hL7.out.below hb8
              have hB8 := hB7.out.trans (hb8.mono hB7.out.size)
              have hg8 := blk_below hb8 hz7 hg7.out
              have hz8 := Nat.lt_of_lt_of_le hz7 hb8.size
              have hgN : ¬ isNode N g := fun hn => by have := hL7.out.tlt hn; omega
              have hgn : g ∉ gs := fun hm => by
                obtain ⟨_, _, _, _, hq⟩ := hL7.out.bkt hm
                have := lt_of_blk hq
                omega
              have hgb : w.heap.size ≤ g := by have := hB7.out.size; omega
              have hrg : (Value.slice A2 i c2).ownBlock ≠ some g := fun e => by
                have := (World.ownsRow.lt hL7.out.rules _ e).2
                omega
              clear hcg qn hL7 hB7 hg7 hb8
              replace hB8 := hide hB8
              replace hL8 := hide hL8
              replace hg8 := hide hg8
              replace hk8 := hide hk8
              replace hgN := hide hgN
              replace hgn := hide hgn
              replace hrg := hide hrg
              go_upto_region 14 with fail
              refine wp_region_W [7] w8.heap.size (isNode N) (by as_aux_lemma => kernel_rfl) ?_
              intro wd hbd
              have hLd := hL8.out.below hbd
              have hBd := hB8.out.trans (hbd.mono hB8.out.size)
              have hgd := blk_below hbd hz8 hg8.out
              have hkd : bktAt wd g r.e r.m r.m 0 := blk_below hbd hgs hk8.out
              have zd := hbd.size
              have hxd := lt_of_blk hL8.out.lim
              have lx := fun l : KeptSW w8.heap.size (isNode N) wd => blk_cell (l.blk hLd.lim hxd (fun hn => (hLd.node x hn).2.1 rfl)) 0
              have lz := fun l : KeptSW w8.heap.size (isNode N) wd => blk_cell (l.blk hgd hz8 hnz.out)
              clear hL8 hB8 hg8 hk8 hbd
              replace hLd := hide hLd
              replace hBd := hide hBd
              replace hgd := hide hgd
              replace hkd := hide hkd
              refine wpWS_seg [7] w8.heap.size (isNode N) 0 7 (fuel := 1) (by as_aux_lemma => kernel_rfl) (fun d _ _ _ _ h => by cases d <;> exact h) (by as_aux_lemma => kernel_rfl) (by as_aux_lemma => kernel_rfl) ?_
              simp only [List.drop_zero, List.take_succ_cons, List.take_zero]
              iterate 7 (refine wpQS_step (fun K hK => ?_); go_simp; refine hK _ ?_; clear hK K)
              refine wpQF_nil ?_
              clear lx lz
              obtain ⟨k, hik, hfre, hmore⟩ := keys_more es hok.out i r hri.out hRP.out (by rw [hX.out]; omega)
              have hcall := put_yes w.heap.size r.p ⟨h61, h62⟩ k (i : Int) (by rw [← hik]; exact hRP.out) wd N _ (i : Int) (by omega) (by omega) hLd.out.trie
              rw [← hik] at hcall
              unfold pArr at hcall
              replace hik := hide hik
              replace hfre := hide hfre
              replace hmore := hide hmore
              replace hcall := hide hcall
              refine wpW_step 7 rfl (by as_aux_lemma => kernel_rfl) (fun K hK => ?_)
              go_simp
              go_at_call 54
              refine hcall.out.mono ?_
              rintro e' w9 ⟨rfl, hP⟩
              refine hK _ _ (relS_of rfl (by
                obtain ⟨_, _, hkS, _⟩ := hP
                exact ⟨hkS.os, hkS.tape, hkS.output, hkS.size, fun j hj hne => hkS.block j (by omega) hne⟩)) ?_
              clear hK K
              refine wpW_done (by as_aux_lemma => kernel_rfl) ?_ _
              obtain ⟨⟨N', hL9, hfar⟩, hBp, hbk9⟩ := hLd.out.put hP hfre.out hBd.out.size
              rw [← hmore.out] at hL9
              have ei : (i : Int) + 1 = ((i + 1 : Nat) : Int) := by omega
              rw [ei] at hL9
              clear ei
              have hk9 := hbk9 g _ _ _ _ hkd.out hgN.out
              have hB9 := hBd.out.trans hBp
              have hgN9 : ¬ isNode N' g := fun hn => by
                rcases hfar g hn with h | h
                · exact hgN.out h
                · omega
              have hg9 : w9.heap[wr.heap.size]? = some (.cells #[.bool r.p.v6, .int .u64 (r.p.hi : Int), .int .u64 (r.p.lo : Int), .int .i64 r.i, .int .i64 r.e, .int .i64 r.m] 32 (0, 0)) := by
                obtain ⟨_, _, hkS, _⟩ := hP
                exact (hkS.block _ (by omega) hnz.out).trans hgd.out
              have hz9 : wr.heap.size < w9.heap.size := lt_of_blk hg9
              have hx9 : x < w9.heap.size := lt_of_blk hL9.lim
              have hgs9 : g < w9.heap.size := lt_of_blk hk9
              clear hcall hP hfar hbk9 hBp hLd hBd hgd hkd hgN hik hfre hmore hnz
              replace hL9 := hide hL9
              replace hk9 := hide hk9
              replace hB9 := hide hB9
              replace hgN9 := hide hgN9
              replace hg9 := hide hg9
              go_upto_region 15 with fail
              refine wp_region_Y [10] (KeptS w9.heap.size (fun k => (Value.slice A2 i c2).ownBlock = some k)) (by as_aux_lemma => kernel_rfl) ?_
              intro we hbe
              have hLe := hL9.out.below hbe
              have hge := blk_below hbe hz9 hg9.out
              have hke : bktAt we g r.e r.m r.m 0 := blk_below hbe hgs9 hk9.out
              have hBe := hB9.out.trans (hbe.mono hB9.out.size)
              have ze := hbe.size
              have lx := fun l : RelW (KeptS w9.heap.size (fun k => (Value.slice A2 i c2).ownBlock = some k)) we => blk_cell ((l.hk.block x hx9 hLe.rsx).trans hLe.lim) 1
              have lz := fun l : RelW (KeptS w9.heap.size (fun k => (Value.slice A2 i c2).ownBlock = some k)) we => blk_cell ((l.hk.block wr.heap.size hz9 hrz.out).trans hge)
              clear hL9 hg9 hk9 hB9 hbe
              replace hLe := hide hLe
              replace hke := hide hke
              replace hBe := hide hBe
              refine wpY_seg [10] (KeptS w9.heap.size (fun k => (Value.slice A2 i c2).ownBlock = some k)) 0 6 (fuel := 5) (by as_aux_lemma => kernel_rfl) (fun d _ _ _ _ h => by cases d <;> exact h) (by as_aux_lemma => kernel_rfl) (by as_aux_lemma => kernel_rfl) (by as_aux_lemma => kernel_rfl) ?_
              simp only [List.drop_zero, List.take_succ_cons, List.take_zero]
              iterate 6 (refine wpQX_step (fun K hK => ?_); go_simp; refine hK _ ?_; clear hK K)
              refine wpQF_nil ?_
              clear lx lz hge
              refine wpW_step 6 rfl (by as_aux_lemma => kernel_rfl) (fun K hK => ?_)
              go_simp
              refine hK _ _ (relY_of (keptS_of_below ((Below.refl _ _).alloc (Nat.le_refl _) _) ze)) ?_
              clear hK K
              obtain ⟨w10, hw10⟩ : ∃ w10, we.alloc (.cells (rulC r).toArray 32) = w10 := ⟨_, rfl⟩
              have hb10 : Below we.heap.size we w10 := hw10 ▸ (Below.refl _ _).alloc (Nat.le_refl _) _
              have hn10 : w10.heap[we.heap.size]? = some (.cells (rulC r).toArray 32 (0, 0)) := hw10 ▸ blk_new _ _ _
              change wpW _ _ _ _ _ _ _ _ (we.alloc (.cells (rulC r).toArray 32))
              rw [hw10]
              have hL10 := hLe.out.below hb10
              have hk10 : bktAt w10 g r.e r.m r.m 0 := blk_below hb10 (Nat.lt_of_lt_of_le hgs9 ze) hke.out
              have hB10 := hBe.out.trans (hb10.mono hBe.out.size)
              have z10 := hb10.size
              clear hw10 hb10 hLe hke hBe
              refine wpW_step 7 rfl (by as_aux_lemma => kernel_rfl) (fun K hK => ?_)
              rw [if_pos (by unfold Region.wanted; rfl)]
              refine wp_app_rul (.tmp 62) (.tmp 64) rfl w.heap.size _ (es.take i) [r] (some ⟨we.heap.size, 0, none⟩) 1 1 w10.heap.size rfl rfl hL10.rules (rul_lit hn10) hB10.size (by rw [htl]; omega) fun v11 w11 h1 h2 => hK _ _ (relY_of ⟨h2.grown.os, h2.grown.tape, h2.grown.output, h2.grown.size, fun k hk hne => h2.grown.block k (by omega) (fun e => hne e.symm)⟩) ?_
              clear hK K hn10
              obtain ⟨A4, c4, hv11, -, -, -⟩ := own_isv h1
              have htl1 : (es.take (i + 1)).length = i + 1 := by rw [List.length_take]; omega
              rw [htk.out, htl1] at hv11
              rw [htk.out] at h1
              subst hv11
              obtain ⟨hL12, hB12, hlim11, hbk12⟩ := hL10.rule h1 h2 hB10.size
              have hk12 := hbk12 g _ _ _ _ hk10 hrg.out
              have hBb := hB10.trans hB12
              have hc := blk_cell hlim11 1
              have hf := blk_free hlim11 1
              obtain ⟨w12, hw12⟩ : ∃ w12, w11.setCell ⟨x, 1, none⟩ (.slice A4 (i + 1) c4) = w12 := ⟨_, rfl⟩
              rw [hw12] at hL12 hBb hk12
              clear h1 h2 hL10 hk10 hB10 hB12 hlim11 hbk12 htl1
              replace hL12 := hide hL12
              replace hBb := hide hBb
              replace hk12 := hide hk12
              refine wpW_step 8 rfl (by as_aux_lemma => kernel_rfl) (fun K hK => ?_)
              go_simp
              refine hK _ _ (relY_of (IsRel.refl _)) ?_
              clear hK K
              refine wpW_step 9 rfl (by as_aux_lemma => kernel_rfl) (fun K hK => ?_)
              go_simp
              refine hK _ _ (relY_of (IsRel.refl _)) ?_
              clear hK K
              refine wpW_step 10 rfl (by as_aux_lemma => kernel_rfl) (fun K hK => ?_)
              go_simp
              refine hK _ _ (relY_wr (by as_aux_lemma => kernel_rfl)) ?_
              clear hK K hc hf hw12
              refine wpW_done (by as_aux_lemma => kernel_rfl) ?_ _
              go_upto_region 16 with fail
              apply wp_region_lit
              have hcx := blk_cell hL12.out.lim
              iterate 7 (refine wpList_plain rfl fun K hK => ?_; go_simp; refine hK _ _ ?_; clear hK K)
              refine wpl_lit_r (e := 52) (f := ptrV) Tryd.underlying45 info_bkp rfl (by omega) (fun _ => rfl) rfl (.tmp 72) (.tmp 74) rfl w.heap.size _ gs [g] 1 1 rfl rfl rfl rfl hL12.out.row hBb.out.size (by rw [hgl]; omega) fun v13 w13 h3 h4 => ?_
              clear hcx
              obtain ⟨A5, c5, hv13, -, -, -⟩ := own_isv h3
              rw [List.length_append, hgl, List.length_singleton] at hv13
              subst hv13
              obtain ⟨hL14, hB14, hlim13⟩ := hL12.out.bucket h3 h4 hBb.out.size (r := r) (by rw [hgl]; exact hri.out) (by rw [hgl, hst.out]; exact hk12.out) hgb hgn.out hgN9.out
              have hc := blk_cell hlim13 2
              have hf := blk_free hlim13 2
              have hBe := hBb.out.trans hB14
              obtain ⟨w14, hw14⟩ : ∃ w14, w13.setCell ⟨x, 2, none⟩ (.slice A5 (i + 1) c5) = w14 := ⟨_, rfl⟩
              rw [hw14] at hL14 hBe
              have hbad2 : ∀ (j : Nat) (r' : Rul), j < i + 1 → es[j]? = some r' → badC es j r' = 0 := by
                intro j r' hj hr'
                by_cases hji : j = i
                · subst hji
                  obtain rfl : r = r' := Option.some.inj (hri.out.symm.trans hr')
                  exact hbc.out
                · exact hbad.out j r' (by omega) hr'
              have hgl2 : (gs ++ [g]).length = i + 1 := by simp [hgl]
              clear h3 h4 hL12 hBb hk12 hlim13 hB14 hgN9
              replace hL14 := hide hL14
              replace hBe := hide hBe
              replace hbad2 := hide hbad2
              replace hgl2 := hide hgl2
              iterate 3 (refine wpList_plain rfl fun K hK => ?_; go_simp; refine hK _ _ ?_; clear hK K)
              refine wpList_nil ?_
              go_simp
              clear hc hf hw14
              go_wp2_with fail
              exact ⟨⟨i + 1, by omega, by first | rfl | go_num, hbad2.out, hBe.out, N', _, _, gs ++ [g], hL14.out, hgl2.out⟩, by simp only [intOf]; omega⟩
    · obtain rfl : i = n := by omega
      have hlt : ((i : Int) < (i : Int)) = False := by simp
      have htk : es.take i = es := List.take_of_length_le (by omega)
      have htp : (putsR es).take i = putsR es := List.take_of_length_le (by rw [putsR_len]; omega)
      rw [htk, htp] at hL
      have hbad2 : ∀ (j : Nat) (r' : Rul), es[j]? = some r' → badC es j r' = 0 := fun j r' hj => hbad j r' (by have := (List.getElem?_eq_some_iff.1 hj).1; omega) hj
      replace hL := hide hL
      replace hB := hide hB
      replace hbad := hide hbad
      replace hbad2 := hide hbad2
      go_wp2_with fail
      refine bodyPost_ret (v := .tuple #[.pointer (some ⟨x, 0, none⟩), .int .i64 0, .int .i64 0]) (by simp [results, Tryd.results12, go_sem]) rfl ?_
      refine ⟨hB.out, .inr ⟨hbad2.out, x, w.heap.size, N, rs, bs, gs, rfl, ?_, by rw [hgl, hlen]⟩⟩
      have h := hL.out
      rw [← hlen] at h
      exact h
end Addr05
end Go.Proofs.YtbcicbiphgeghaaDoor
/- law45: under. Conditions: numbers of 64 bits. -/
namespace Go.Proofs.YtbcicbiphgeghaaDoor
open Go.RowKit Go.ChangeShapes Go.WideShapes Go.ChangeAt Go.Deep
namespace Addr05
/-- Under which rule an address falls. -/
def underL (es : List Rul) (a : Adr) : Int := if rightB a.v6 a.hi a.lo = true then uL (uAt es a es.length) else -1
set_option maxRecDepth 20000 in
set_option maxHeartbeats 8000000 in
theorem under_any (n c : Nat) (A : Option Addr) (es : List Rul) (hok : ∀ r ∈ es, r.p.ok) (a : Adr) (hoa : a.ok) (w : World) (hx : IsT rulC 6 w w.heap.size A n es) (hn : n ≤ 1099511627776) :
    Calls Tryd.prog 17 #[.slice A n c, .agg #[.bool a.v6, .int .u64 (a.hi : Int), .int .u64 (a.lo : Int)]] w fun r w' => r = .returned (.int .i64 (underL es a)) ∧ Below w.heap.size w w' := by
  have hlen := hx.1
  have hH := fun (r : Rul) (h : r.p.ok) w => pHas_any r.p h r.i a hoa w
  obtain ⟨w1, hw1⟩ : ∃ w1, w.alloc (.cells #[.bool a.v6, .int .u64 (a.hi : Int), .int .u64 (a.lo : Int)] 26) = w1 := ⟨_, rfl⟩
  have hB : Below w.heap.size w w1 := hw1 ▸ (Below.refl _ _).alloc (Nat.le_refl _) _
  have hg : w1.heap[w.heap.size]? = some (.cells #[.bool a.v6, .int .u64 (a.hi : Int), .int .u64 (a.lo : Int)] 26 (0, 0)) := hw1 ▸ blk_new _ _ _
  have hz : w.heap.size < w1.heap.size := by rw [← hw1]; simp
  have hx1 := hx.on hB
  have hrb : rightB a.v6 a.hi a.lo = true ↔ (a.v6 = true ∨ (a.hi = 0 ∧ a.lo < 4294967296)) := by unfold rightB; simp
  have hu1 : rightB a.v6 a.hi a.lo = true → underL es a = uL (uAt es a n) := fun h => by unfold underL; rw [if_pos h, hlen]
  have hu2 : rightB a.v6 a.hi a.lo = false → underL es a = -1 := fun h => by unfold underL; rw [if_neg (by rw [h]; simp)]
  have hus := uAt_succ es a
  have hub := uAt_lt es a
  have hu0 : uAt es a 0 = none := rfl
  have hHe : ∀ r : Rul, ∃ b, hasP r.p r.i a = b := fun r => ⟨_, rfl⟩
  obtain ⟨U, hU⟩ : ∃ U, uAt es a = U := ⟨_, rfl⟩
  obtain ⟨X, hX⟩ : ∃ X, underL es a = X := ⟨_, rfl⟩
  obtain ⟨HP, hHP⟩ : ∃ HP : Rul → Bool, (fun r => hasP r.p r.i a) = HP := ⟨_, rfl⟩
  replace hH : ∀ r : Rul, r.p.ok → ∀ w : World, Calls Tryd.prog 60 #[.agg (pArr r.p r.i), .agg #[.bool a.v6, .int .u64 (a.hi : Int), .int .u64 (a.lo : Int)]] w fun e w' => e = .returned (.bool (HP r)) ∧ Below w.heap.size w w' := fun r h w => by rw [← hHP]; exact hH r h w
  replace hus : ∀ (i : Nat) (r : Rul), es[i]? = some r → uAt es a (i + 1) = if HP r = true then uStep es r.i i (uAt es a i) else uAt es a i := fun i r h => by rw [← hHP]; exact hus i r h
  rw [hU] at hu1 hus hub hu0
  rw [hX] at hu1 hu2 ⊢
  clear hU hX hHP hHe hx
  obtain ⟨RB, hRB⟩ : ∃ x, rightB a.v6 a.hi a.lo = x := ⟨_, rfl⟩
  rw [hRB] at hu1 hu2 hrb
  clear hRB hoa
  obtain ⟨v6, hi, lo⟩ := a
  dsimp only at hrb hg hw1 hH ⊢
  have c0 := blk_cell hg 0
  have c1 := blk_cell hg 1
  have c2 := blk_cell hg 2
  replace hB := hide hB
  replace hx1 := hide hx1
  replace hg := hide hg
  replace hu1 := hide hu1
  replace hu2 := hide hu2
  replace hus := hide hus
  replace hub := hide hub
  replace hu0 := hide hu0
  replace hH := hide hH
  replace hok := hide hok
  cases RB
  · obtain rfl : X = -1 := hu2.out rfl
    have hv : v6 = false := by
      cases v6
      · rfl
      · exact absurd (hrb.2 (Or.inl rfl)) (by simp)
    subst hv
    have hcase : ¬ ((hi : Int) = 0) ∨ (4294967295 : Int) < (lo : Int) := by
      have := hrb.2
      simp at this
      omega
    clear hrb hu1 hu2 hus hub hu0 hH hok hx1
    by_cases h1 : (hi : Int) = 0
    · have h2 : (4294967295 : Int) < (lo : Int) := by omega
      rw [h1] at hw1 c1
      go_enter Tryd.func17, Tryd.ntmps17
      go_upto_region 1 with fail
      clear hw1
      go_wp2_with fail
      go_ret
      exact ⟨rfl, hB.out⟩
    · clear hcase
      go_enter Tryd.func17, Tryd.ntmps17
      go_upto_region 1 with fail
      clear hw1
      go_wp2_with fail
      go_ret
      exact ⟨rfl, hB.out⟩
  · have hcase : v6 = true ∨ ((hi : Int) = 0 ∧ ¬ (4294967295 : Int) < (lo : Int)) := by
      rcases hrb.1 rfl with h | ⟨h1, h2⟩
      · exact .inl h
      · exact .inr ⟨by omega, by omega⟩
    clear hrb
    have hres : X = uL (U n) := hu1.out rfl
    clear hu1 hu2
    go_enter Tryd.func17, Tryd.ntmps17
    go_upto_region 1 with fail
    clear hw1
    go_upto_region 2 with fail
    go_cut [3, 4, 5, 19] from 1 to 19 (fun pv rv bv tv wx => pv = .pointer (some ⟨w.heap.size, 0, none⟩) ∧ rv = .int .i64 0 ∧ bv = .int .i64 (-1) ∧ tv = .bool false ∧ w1 = wx)
    case first =>
      rcases hcase with rfl | ⟨h1, h2⟩
      · go_wp2_with fail
        go_meet
        exact ⟨rfl, rfl, rfl, rfl, rfl⟩
      · have t1 : ((hi : Int) != 0) = false := by rw [h1]; rfl
        clear h1
        go_wp2_with fail
        all_goals
          go_meet
          exact ⟨rfl, rfl, rfl, rfl, rfl⟩
    case rest =>
    obtain ⟨rfl, rfl, rfl, rfl, rfl⟩ := hcut
    clear hcase
    go_wp2_with fail
    go_loopw [5, 6] (fun bv iv wr => ∃ i : Nat, i ≤ n ∧ iv = .int .i64 (i : Int) ∧ bv = .int .i64 (uL (U i)) ∧ Below w1.heap.size w1 wr) (fun _ iv _ => n - (intOf iv).toNat)
    case atStart => exact ⟨0, by omega, rfl, by rw [hu0.out]; rfl, Below.refl _ _⟩
    case round =>
      obtain ⟨i, hi', rfl, rfl, hbr⟩ := hrel
      by_cases hil : i < n
      · have hlt : (i : Int) < (n : Int) := by omega
        obtain ⟨bk, off, r, rfl, hbk, hri, hcell⟩ := (hx1.out.below hbr).at rulC_len (by omega) hil
        have hq := fun w => hH.out r (hok.out r (List.mem_of_getElem? hri)) w
        have hbl : bk < wr.heap.size := Nat.lt_of_lt_of_le hbk hbr.size
        have c0 : wr.cell? ⟨bk, off + i * 6, none⟩ = some (.bool r.p.v6) := hcell 0 _ rfl
        have c1' : wr.cell? ⟨bk, off + i * 6 + 1, none⟩ = some (.int .u64 (r.p.hi : Int)) := hcell 1 _ rfl
        have c2' : wr.cell? ⟨bk, off + i * 6 + 2, none⟩ = some (.int .u64 (r.p.lo : Int)) := hcell 2 _ rfl
        have c3' : wr.cell? ⟨bk, off + i * 6 + 3, none⟩ = some (.int .i64 r.i) := hcell 3 _ rfl
        have d0 := fun l : Later wr => (World.cell?_of_block (l.hb.block bk hbl)).trans c0
        have d1 := fun l : Later wr => (World.cell?_of_block (l.hb.block bk hbl)).trans c1'
        have d2 := fun l : Later wr => (World.cell?_of_block (l.hb.block bk hbl)).trans c2'
        have d3 := fun l : Later wr => (World.cell?_of_block (l.hb.block bk hbl)).trans c3'
        have hcg := fun l : Later wr => blk_cell (blk_below l.hb (Nat.lt_of_lt_of_le hz hbr.size) (blk_below hbr hz hg.out))
        have hU1 := hus.out i r hri
        have hxi := hx1.out.below hbr
        obtain ⟨HR, hHR⟩ : ∃ HR, HP r = HR := ⟨_, rfl⟩
        rw [hHR] at hU1 hq
        clear c0 c1' c2' c3' hcell hHR
        unfold pArr at hq
        replace hbr := hide hbr
        replace hU1 := hide hU1
        replace hq := hide hq
        replace hri := hide hri
        replace hxi := hide hxi
        cases HR
        · have hU1 : U (i + 1) = U i := by have h := hU1.out; simpa using h
          replace hU1 := hide hU1
          go_upto_region 7 with fail
          refine wp_region_L (by as_aux_lemma => kernel_rfl) ?_
          refine wpE_seg 0 26 (fuel := 0) (by as_aux_lemma => kernel_rfl) (fun d _ _ _ _ h => by cases d <;> exact h) (by as_aux_lemma => kernel_rfl) (by as_aux_lemma => kernel_rfl) ?_
          simp only [List.drop_zero, List.take_succ_cons, List.take_zero]
          iterate 6 (refine wpQE_step (fun K hK => ?_); go_simp; refine hK _ ?_; clear hK K)
          (refine wpQE_step (fun K hK => ?_); go_simp; apply Exists.intro; refine ⟨fun l => ?_, hK _ ?_⟩; (go_at_call 60; refine (hq.out l.w).mono ?_; rintro e w' ⟨rfl, hb⟩; exact ⟨rfl, hb⟩); clear hK K)
          refine wpQE_val_skip (.bool false) 17 rfl (fun l => rfl) (by as_aux_lemma => kernel_rfl) ?_
          dsimp only [putU, List.take_succ_cons, List.take_zero, List.drop_succ_cons, List.drop_zero, Act.put]
          iterate 1 (refine wpQE_step (fun K hK => ?_); go_simp; refine hK _ ?_; clear hK K)
          refine wpQE_nil ?_
          refine wpE_done (by as_aux_lemma => kernel_rfl) (fun w9 hb9 => ?_) 0
          clear d0 d1 d2 d3 hcg
          have hbx := hbr.out.trans (hb9.mono hbr.out.size)
          clear hb9 hbr
          replace hbx := hide hbx
          go_wp2_with fail
          exact ⟨⟨i + 1, by omega, by first | rfl | go_num, by first | (rw [hU1.out]; done) | (rw [hU1.out]; rfl), hbx.out⟩, by simp only [intOf]; omega⟩
        · have hU1 : U (i + 1) = uStep es r.i i (U i) := by have h := hU1.out; simpa using h
          have hubi := hub.out i
          obtain ⟨B, hBe⟩ : ∃ B, uL (U i) = B := ⟨_, rfl⟩
          have hcases : (B < 0 ∧ U (i + 1) = some i) ∨ ∃ (b : Nat) (r2 : Rul), (b : Int) = B ∧ b < i ∧ es[b]? = some r2 ∧ U (i + 1) = (if r2.i < r.i then some i else some b) := by
            rw [hU1, ← hBe]
            cases hu : U i with
            | none => exact .inl ⟨by decide, rfl⟩
            | some b =>
              have hbi := hubi b hu
              have h1 : es[b]? = some (es[b]'(by omega)) := List.getElem?_eq_getElem _
              refine .inr ⟨b, _, rfl, hbi, h1, ?_⟩
              unfold uStep
              dsimp only
              rw [h1]
              rfl
          rw [hBe]
          clear hBe hubi hU1
          rcases hcases with ⟨hB0, hU1⟩ | ⟨b, r2, hBb, hbi, hrb, hU1⟩
          · have t36 : decide (B < 0) = true := decide_eq_true hB0
            clear hB0
            replace hU1 := hide hU1
            go_upto_region 7 with fail
            refine wp_region_L (by as_aux_lemma => kernel_rfl) ?_
            refine wpE_seg 0 26 (fuel := 0) (by as_aux_lemma => kernel_rfl) (fun d _ _ _ _ h => by cases d <;> exact h) (by as_aux_lemma => kernel_rfl) (by as_aux_lemma => kernel_rfl) ?_
            simp only [List.drop_zero, List.take_succ_cons, List.take_zero]
            iterate 6 (refine wpQE_step (fun K hK => ?_); go_simp; refine hK _ ?_; clear hK K)
            (refine wpQE_step (fun K hK => ?_); go_simp; apply Exists.intro; refine ⟨fun l => ?_, hK _ ?_⟩; (go_at_call 60; refine (hq.out l.w).mono ?_; rintro e w' ⟨rfl, hb⟩; exact ⟨rfl, hb⟩); clear hK K)
            iterate 1 (refine wpQE_step (fun K hK => ?_); go_simp; refine hK _ ?_; clear hK K)
            iterate 2 (refine wpQE_step (fun K hK => ?_); go_simp; refine hK _ ?_; clear hK K)
            refine wpQE_val_skip (.bool true) 13 (by as_aux_lemma => kernel_rfl) (fun l => rfl) (by as_aux_lemma => kernel_rfl) ?_
            dsimp only [putU, List.take_succ_cons, List.take_zero, List.drop_succ_cons, List.drop_zero, Act.put]
            go_simp
            iterate 2 (refine wpQE_step (fun K hK => ?_); go_simp; refine hK _ ?_; clear hK K)
            refine wpQE_nil ?_
            refine wpE_done (by as_aux_lemma => kernel_rfl) (fun w9 hb9 => ?_) 0
            clear d0 d1 d2 d3 hcg
            have hbx := hbr.out.trans (hb9.mono hbr.out.size)
            clear hb9 hbr
            replace hbx := hide hbx
            go_wp2_with fail
            exact ⟨⟨i + 1, by omega, by first | rfl | go_num, by first | (rw [hU1.out]; done) | (rw [hU1.out]; rfl), hbx.out⟩, by simp only [intOf]; omega⟩
          · have i4 : decide (B < 0) = false := by rw [decide_eq_false_iff_not]; omega
            have i5 : 0 ≤ B := by omega
            have i6 : B < (n : Int) := by omega
            have i7 : B.toNat = b := by omega
            obtain ⟨bk2, off2, r3, hA2, -, hrb3, hcell2⟩ := hxi.out.at rulC_len (by omega) (show b < n by omega)
            cases hA2
            obtain rfl : r2 = r3 := Option.some.inj (hrb.symm.trans hrb3)
            have c4 : wr.cell? ⟨bk, off + b * 6 + 3, none⟩ = some (.int .i64 r2.i) := hcell2 3 _ rfl
            have d4 := fun l : Later wr => (World.cell?_of_block (l.hb.block bk hbl)).trans c4
            clear c4 hcell2 hrb hrb3
            subst hBb
            by_cases hcmp : r2.i < r.i
            · rw [if_pos hcmp] at hU1
              replace hU1 := hide hU1
              go_upto_region 7 with fail
              refine wp_region_L (by as_aux_lemma => kernel_rfl) ?_
              refine wpE_seg 0 26 (fuel := 0) (by as_aux_lemma => kernel_rfl) (fun d _ _ _ _ h => by cases d <;> exact h) (by as_aux_lemma => kernel_rfl) (by as_aux_lemma => kernel_rfl) ?_
              simp only [List.drop_zero, List.take_succ_cons, List.take_zero]
              iterate 6 (refine wpQE_step (fun K hK => ?_); go_simp; refine hK _ ?_; clear hK K)
              (refine wpQE_step (fun K hK => ?_); go_simp; apply Exists.intro; refine ⟨fun l => ?_, hK _ ?_⟩; (go_at_call 60; refine (hq.out l.w).mono ?_; rintro e w' ⟨rfl, hb⟩; exact ⟨rfl, hb⟩); clear hK K)
              iterate 19 (refine wpQE_step (fun K hK => ?_); go_simp; refine hK _ ?_; clear hK K)
              refine wpQE_nil ?_
              refine wpE_done (by as_aux_lemma => kernel_rfl) (fun w9 hb9 => ?_) 0
              clear d0 d1 d2 d3 d4 hcg
              have hbx := hbr.out.trans (hb9.mono hbr.out.size)
              clear hb9 hbr
              replace hbx := hide hbx
              go_wp2_with fail
              exact ⟨⟨i + 1, by omega, by first | rfl | go_num, by first | (rw [hU1.out]; done) | (rw [hU1.out]; rfl), hbx.out⟩, by simp only [intOf]; omega⟩
            · rw [if_neg hcmp] at hU1
              replace hU1 := hide hU1
              go_upto_region 7 with fail
              refine wp_region_L (by as_aux_lemma => kernel_rfl) ?_
              refine wpE_seg 0 26 (fuel := 0) (by as_aux_lemma => kernel_rfl) (fun d _ _ _ _ h => by cases d <;> exact h) (by as_aux_lemma => kernel_rfl) (by as_aux_lemma => kernel_rfl) ?_
              simp only [List.drop_zero, List.take_succ_cons, List.take_zero]
              iterate 6 (refine wpQE_step (fun K hK => ?_); go_simp; refine hK _ ?_; clear hK K)
              (refine wpQE_step (fun K hK => ?_); go_simp; apply Exists.intro; refine ⟨fun l => ?_, hK _ ?_⟩; (go_at_call 60; refine (hq.out l.w).mono ?_; rintro e w' ⟨rfl, hb⟩; exact ⟨rfl, hb⟩); clear hK K)
              iterate 19 (refine wpQE_step (fun K hK => ?_); go_simp; refine hK _ ?_; clear hK K)
              refine wpQE_nil ?_
              refine wpE_done (by as_aux_lemma => kernel_rfl) (fun w9 hb9 => ?_) 0
              clear d0 d1 d2 d3 d4 hcg
              have hbx := hbr.out.trans (hb9.mono hbr.out.size)
              clear hb9 hbr
              replace hbx := hide hbx
              go_wp2_with fail
              exact ⟨⟨i + 1, by omega, by first | rfl | go_num, by first | (rw [hU1.out]; done) | (rw [hU1.out]; rfl), hbx.out⟩, by simp only [intOf]; omega⟩
      · obtain rfl : i = n := by omega
        have hlt : ((i : Int) < (i : Int)) = False := by simp
        have hB3 := hB.out.trans (hbr.mono hB.out.size)
        clear hbr
        subst hres
        replace hB3 := hide hB3
        go_wp2_with fail
        go_ret
        exact ⟨rfl, hB3.out⟩
end Addr05
end Go.Proofs.YtbcicbiphgeghaaDoor
/- limit: plain: the rule under which an address falls is the one that the trie finds. No condition. -/
namespace Go.Proofs.YtbcicbiphgeghaaDoor
open Go.RowKit Go.ChangeShapes Go.WideShapes Go.ChangeAt Go.Deep
namespace Addr05
/-- Rules that may be. -/
def Good (es : List Rul) : Prop := ∀ (j : Nat) (r : Rul), es[j]? = some r → badC es j r = 0
theorem Good.at {es : List Rul} (h : Good es) {j : Nat} {r : Rul} (hj : es[j]? = some r) : j < 256 ∧ rightP r.p r.i = true ∧ rightR r.e r.m = true ∧ ∀ x ∈ es.take j, ¬ (x.p = r.p ∧ x.i = r.i) := by
  have h0 := h j r hj
  unfold badC at h0
  split at h0
  · cases h0
  split at h0
  · cases h0
  split at h0
  · cases h0
  split at h0
  · cases h0
  · rename_i h1 h2 h3 h4
    refine ⟨by omega, by simpa using h2, by simpa using h3, fun x hx => ?_⟩
    have hneg : atL (es.take j) r.p r.i < 0 := by omega
    unfold atL at hneg
    split at hneg
    · omega
    · rename_i h
      have := List.findIdx?_eq_none_iff.1 h x hx
      simpa using this
/-- The rule under which an address falls. -/
def undF (es : List Rul) (a : Adr) : Option Nat := if rightB a.v6 a.hi a.lo = true then uAt es a es.length else none
theorem underL_eq (es : List Rul) (a : Adr) : underL es a = uL (undF es a) := by
  unfold underL undF
  split <;> rfl
theorem undF_lt (es : List Rul) (a : Adr) (b : Nat) (h : undF es a = some b) : b < es.length := by
  unfold undF at h
  split at h
  · exact uAt_lt es a _ b h
  · cases h
def bitsAt (es : List Rul) (b : Nat) : Nat := ((es[b]?.map (fun r : Rul => r.i)).getD 0).toNat
theorem pick_under (es : List Rul) (hok : ∀ r ∈ es, r.ok) (hg : Good es) (a : Adr) (ha : a.ok) (har : a.right) : ∀ i, i ≤ es.length →
    pickOf a ((putsR es).take i) = (uAt es a i).map (fun b : Nat => (((b : Nat) : Int), bitsAt es b)) ∧ ∀ (b : Nat) (r : Rul), uAt es a i = some b → es[b]? = some r → hasP r.p r.i a = true
  | 0, _ => ⟨rfl, fun b r h => by simp [uAt] at h⟩
  | i + 1, hi => by
    obtain ⟨ih, ihh⟩ := pick_under es hok hg a ha har i (by omega)
    have hr : es[i]? = some (es[i]'(by omega)) := List.getElem?_eq_getElem _
    obtain ⟨r, hre⟩ : ∃ r, es[i]'(by omega) = r := ⟨_, rfl⟩
    rw [hre] at hr
    obtain ⟨-, hrp, -, hdis⟩ := hg.at hr
    rw [pickOf_snoc a (putsR es) i _ (putsR_get hr), uAt_succ es a i r hr, ih]
    unfold stepR
    dsimp only
    have hbi : bitsAt es i = r.i.toNat := by unfold bitsAt; rw [hr]; rfl
    by_cases hh : hasP r.p r.i a = true
    · rw [if_pos hh]
      cases hu : uAt es a i with
      | none =>
        rw [if_pos ⟨hh, fun q hq => by cases hq⟩]
        refine ⟨?_, fun b r' hb hr' => ?_⟩
        · unfold uStep
          dsimp only [Option.map]
          rw [hbi]
        · unfold uStep at hb
          cases hb
          obtain rfl := Option.some.inj (hr.symm.trans hr')
          exact hh
      | some b =>
        have hbl := uAt_lt es a i b hu
        have hb1 : es[b]? = some (es[b]'(by omega)) := List.getElem?_eq_getElem _
        obtain ⟨rb, hrb⟩ : ∃ r, es[b]'(by omega) = r := ⟨_, rfl⟩
        rw [hrb] at hb1
        obtain ⟨-, hrpb, -, -⟩ := hg.at hb1
        have hhb := ihh b rb hu hb1
        have hb0 : 0 ≤ rb.i := by
          rcases Int.lt_or_le rb.i 0 with h | h
          · rw [right_no2 _ _ h] at hrpb; cases hrpb
          · exact h
        have hi0 : 0 ≤ r.i := by
          rcases Int.lt_or_le r.i 0 with h | h
          · rw [right_no2 _ _ h] at hrp; cases hrp
          · exact h
        have hbb : bitsAt es b = rb.i.toNat := by unfold bitsAt; rw [hb1]; rfl
        have hne : rb.i ≠ r.i := by
          intro he
          have h1 := (hasP_iff ⟨rb.p, rb.i, 0⟩ a (hok rb (List.mem_of_getElem? hb1)).1 ha har hrpb).1 hhb
          have h2 := (hasP_iff ⟨r.p, r.i, 0⟩ a (hok r (List.mem_of_getElem? hr)).1 ha har hrp).1 hh
          dsimp only at h1 h2
          have hk : (PutE.mk rb.p rb.i 0).key = (PutE.mk r.p r.i 0).key := by
            unfold PutE.key pkey
            dsimp only
            have e1 := h1.2.1
            have e2 := h2.2.1
            unfold bitsN at e1 e2
            rw [h1.1, h2.1, e1, e2, he]
          obtain ⟨hp, -⟩ := key_inj ⟨rb.p, rb.i, 0⟩ ⟨r.p, r.i, 0⟩ (hok rb (List.mem_of_getElem? hb1)).1 (hok r (List.mem_of_getElem? hr)).1 hrpb hrp hk
          exact hdis rb (List.mem_of_getElem? (i := b) (by rw [List.getElem?_take, if_pos hbl, hb1])) ⟨hp, he⟩
        have hus : uStep es r.i i (some b) = if rb.i < r.i then some i else some b := by
          show (if ((es[b]?.map (fun r : Rul => r.i)).getD 0) < r.i then some i else some b) = _
          rw [hb1]
          rfl
        rw [hus]
        by_cases hlt : rb.i < r.i
        · rw [if_pos hlt, if_pos ⟨hh, fun q hq => by
            have hq' := Option.some.inj hq
            rw [← hq']
            dsimp only
            rw [hbb]
            omega⟩]
          refine ⟨by rw [Option.map_some, hbi], fun b' r' hb' hr' => ?_⟩
          cases hb'
          obtain rfl := Option.some.inj (hr.symm.trans hr')
          exact hh
        · rw [if_neg hlt, if_neg (fun hc => by
            have := hc.2 _ rfl
            dsimp only at this
            rw [hbb] at this
            omega)]
          refine ⟨rfl, fun b' r' hb' hr' => ?_⟩
          cases hb'
          obtain rfl := Option.some.inj (hb1.symm.trans hr')
          exact hhb
    · rw [if_neg hh, if_neg (fun hc => hh hc.1)]
      exact ⟨rfl, ihh⟩
theorem of_under (es : List Rul) (hok : ∀ r ∈ es, r.ok) (hg : Good es) (a : Adr) (ha : a.ok) : ofL (fnd (keysOf (putsR es)) a) = uL (undF es a) := by
  unfold fnd undF
  by_cases h : rightB a.v6 a.hi a.lo = true
  · rw [if_pos h, if_pos h]
    have har : a.right := (rightB_iff a).1 h
    rw [find_pick a ha har (putsR es) (puts_ok es hok)]
    have := (pick_under es hok hg a ha har es.length (Nat.le_refl _)).1
    rw [List.take_of_length_le (by rw [putsR_len]; omega)] at this
    rw [this]
    cases uAt es a es.length <;> rfl
  · rw [if_neg h, if_neg h]
    rfl
end Addr05
end Go.Proofs.YtbcicbiphgeghaaDoor
/- limit: limits in use: Take. Conditions: rules that may be. -/
namespace Go.Proofs.YtbcicbiphgeghaaDoor
open Go.RowKit Go.ChangeShapes Go.WideShapes Go.ChangeAt Go.Deep
namespace Addr05
/-- Limits' blocks lie below a block. -/
structure LimIn (B : Nat) (N : Nodes) (x : Nat) (rs bs : Value) (gs : List Nat) : Prop where
  x : x < B
  node : ∀ k, isNode N k → k < B
  rs : ∀ k, rs.ownBlock = some k → k < B
  bs : ∀ k, bs.ownBlock = some k → k < B
  gs : ∀ g, g ∈ gs → g < B
section
variable {w w' : World} {base x tg : Nat} {N : Nodes} {M : Keys} {n : Int} {rs bs : Value} {es : List Rul} {gs : List Nat} {R : List Rul} {st : Nat → Int × Int} {now : Int}
theorem LimC.inB (h : LimC w base x tg N M n rs bs es gs R st now) : LimIn w.heap.size N x rs bs gs :=
  ⟨lt_of_blk h.lim, fun _ hk => h.tlt hk, fun k hk => (World.ownsRow.lt h.rules k hk).2, fun k hk => (h.row.lt k hk).2, fun g hg => by obtain ⟨_, _, _, _, hb⟩ := h.bkt hg; exact lt_of_blk hb⟩
theorem row_on2 {e : TypeId} {size m : Nat} {v : Value} {xs : List Value} (h : w.ownsRow base e size v m xs) (hb : ∀ k, v.ownBlock = some k → w'.heap[k]? = w.heap[k]?) : w'.ownsRow base e size v m xs := by
  refine ⟨h.1, h.2.imp id ?_⟩
  rintro ⟨g, cap, cur, h1, h2, h3, h4⟩
  exact ⟨g, cap, cur, h1, h2, (hb g (by rw [h1]; rfl)).trans h3, h4⟩
theorem LimC.on (h : LimC w base x tg N M n rs bs es gs R st now) (hx : w'.heap[x]? = w.heap[x]?) (hN : ∀ k, isNode N k → w'.heap[k]? = w.heap[k]?) (hr : ∀ k, rs.ownBlock = some k → w'.heap[k]? = w.heap[k]?) (hb : ∀ k, bs.ownBlock = some k → w'.heap[k]? = w.heap[k]?) (hg : ∀ g, g ∈ gs → w'.heap[g]? = w.heap[g]?) : LimC w' base x tg N M n rs bs es gs R st now :=
  ⟨hx.trans h.lim, h.trie.on hN, row_on2 h.rules hr, row_on2 h.row hb, h.bks_on hg, h.dist, h.hx, h.hgs, h.node⟩
theorem LimC.onB {B : Nat} (h : LimC w base x tg N M n rs bs es gs R st now) (hi : LimIn B N x rs bs gs) (hb : Below B w w') : LimC w' base x tg N M n rs bs es gs R st now :=
  h.on (hb.block x hi.x) (fun k hk => hb.block k (hi.node k hk)) (fun k hk => hb.block k (hi.rs k hk)) (fun k hk => hb.block k (hi.bs k hk)) (fun k hk => hb.block k (hi.gs k hk))
/-- What happens below stays below. -/
theorem LimC.off {P : Nat → Prop} (h : LimC w base x tg N M n rs bs es gs R st now) (hk : KeptS w.heap.size P w w') (hP : ∀ k, P k → k < base) : LimC w' base x tg N M n rs bs es gs R st now := by
  have hi := h.inB
  have key : ∀ k, k < w.heap.size → base ≤ k → w'.heap[k]? = w.heap[k]? := fun k h1 h2 => hk.block k h1 (fun hp => by have := hP k hp; omega)
  exact h.on (key x hi.x h.hx) (fun k hk => key k (hi.node k hk) (h.node k hk).1) (fun k hk => key k (hi.rs k hk) (World.ownsRow.lt h.rules k hk).1) (fun k hk => key k (hi.bs k hk) (h.row.lt k hk).1) (fun k hk => key k (hi.gs k hk) (h.hgs k hk))
/-- A bucket is turned. -/
theorem LimC.turn (h : LimC w base x tg N M n rs bs es gs R st now) {j g : Nat} (hj : gs[j]? = some g) (hg : w.grownBy w' (some g)) {r : Rul} (hr : R[j]? = some r) {y : Int × Int} (hb : bktAt w' g r.e r.m y.1 y.2) :
    LimC w' base x tg N M n rs bs es gs R (fun k => if k = j then y else st k) now := by
  have hi := h.inB
  have hgm := List.mem_of_getElem? hj
  have key : ∀ k, k < w.heap.size → k ≠ g → w'.heap[k]? = w.heap[k]? := fun k h1 h2 => hg.block k h1 (fun e => h2 (by cases e; rfl))
  exact ⟨(key x hi.x (fun e => h.gsx (e ▸ hgm))).trans h.lim, h.trie.on fun k hk => key k (hi.node k hk) (fun e => (h.node k hk).2.2.1 (e ▸ hgm)), row_on2 h.rules fun k hk => key k (hi.rs k hk) (fun e => h.gsr hgm (e ▸ hk)), row_on2 h.row fun k hk => key k (hi.bs k hk) (fun e => h.gsb hgm (e ▸ hk)), h.bks.step hj (fun i hi' => h.dist j i g hj hi') hg hr hb, h.dist, h.hx, h.hgs, h.node⟩
/-- The row of the buckets, at a place. -/
theorem row_at (h : OwnBk w base bs gs) {j g : Nat} (hj : gs[j]? = some g) : ∃ q cap cs, bs = .slice (some ⟨q, 0, none⟩) gs.length cap ∧ w.heap[q]? = some (.cells cs 52 (0, 0)) ∧ cs[j]? = some (.pointer (some ⟨g, 0, none⟩)) := by
  have hjl := (List.getElem?_eq_some_iff.1 hj).1
  rcases h.2 with ⟨rfl, h0⟩ | ⟨q, cap, cur, rfl, hb, hh, hn, hm, hs, ht⟩
  · omega
  · refine ⟨q, cap, cur, rfl, hh, ?_⟩
    have h1 : (gs.map ptrV)[j]? = cur[j]? := by
      rw [← ht, List.getElem?_take_of_lt (by rw [← h.1, List.length_map]; exact hjl)]
      simp
    rw [← h1, List.getElem?_map, hj]
    rfl
end
/-- Is it let through? -/
def tkB (H : Nat → Int) (U : Option Nat) (k : Int) : Bool := match U with | none => decide (0 ≤ k) | some j => decide (0 ≤ k ∧ k ≤ H j)
/-- What the buckets have then. -/
def tkH (H : Nat → Int) (U : Option Nat) (k : Int) : Nat → Int := match U with | none => H | some j => fun i => if i = j then (if 0 ≤ k ∧ k ≤ H j then H j - k else H j) else H i
theorem tkH_le {es : List Rul} {H : Nat → Int} (U : Option Nat) (k : Int) (h : ∀ (i : Nat) (r : Rul), es[i]? = some r → 0 ≤ H i ∧ H i ≤ r.m) : ∀ (i : Nat) (r : Rul), es[i]? = some r → 0 ≤ tkH H U k i ∧ tkH H U k i ≤ r.m := by
  intro i r hr
  have h1 := h i r hr
  cases U with
  | none => exact h1
  | some j =>
    unfold tkH
    dsimp only
    split
    · rename_i hij
      subst hij
      split <;> omega
    · exact h1
theorem lTake_is (w : World) (base x tg : Nat) (N : Nodes) (n : Int) (rs bs : Value) (es : List Rul) (gs : List Nat) (H : Nat → Int) (now : Int) (h : LimC w base x tg N (keysOf (putsR es)) n rs bs es gs es (fun k => (H k, now)) now) (hgl : gs.length = es.length) (hel : es.length ≤ 1099511627776)
    (hok : ∀ r ∈ es, r.ok) (hg : Good es) (hH : ∀ (i : Nat) (r : Rul), es[i]? = some r → 0 ≤ H i ∧ H i ≤ r.m) (a : Adr) (ha : a.ok) (k : Int) :
    Calls Tryd.prog 25 #[.pointer (some ⟨x, 0, none⟩), .agg #[.bool a.v6, .int .u64 (a.hi : Int), .int .u64 (a.lo : Int)], .int .i64 k] w fun r w' => r = .returned (.bool (tkB H (undF es a) k)) ∧ LimC w' base x tg N (keysOf (putsR es)) n rs bs es gs es (fun i => (tkH H (undF es a) k i, now)) now ∧ KeptS w.heap.size (fun q => q ∈ gs) w w' := by
  by_cases hk : k < 0
  · refine (lTake_neg x tg rs bs now k hk a.v6 (a.hi : Int) (a.lo : Int) w h.lim).mono ?_
    rintro r w' ⟨rfl, hb⟩
    have e1 : tkB H (undF es a) k = false := by
      unfold tkB
      split <;> (rw [decide_eq_false_iff_not]; omega)
    have e2 : tkH H (undF es a) k = H := by
      unfold tkH
      split
      · rfl
      · funext i
        split
        · rename_i hij
          rw [if_neg (by omega), hij]
        · rfl
    rw [e1, e2]
    exact ⟨rfl, h.below hb, keptS_of_below hb (Nat.le_refl _)⟩
  · have hou := of_under es hok hg a ha
    cases hu : undF es a with
    | none =>
      rw [hu] at hou
      refine (lTake_none x tg rs bs now k (by omega) a ha w N _ n h.lim h.trie hou).mono ?_
      rintro r w' ⟨rfl, hb⟩
      have e1 : tkB H none k = true := by unfold tkB; exact decide_eq_true (by omega)
      rw [e1]
      exact ⟨rfl, h.below hb, keptS_of_below hb (Nat.le_refl _)⟩
    | some j =>
      rw [hu] at hou
      have hjl := undF_lt es a j hu
      obtain ⟨g, hgj⟩ : ∃ g, gs[j]? = some g := ⟨gs[j]'(by omega), List.getElem?_eq_getElem _⟩
      obtain ⟨q, cap, cs, rfl, hq, hcs⟩ := row_at h.row hgj
      obtain ⟨r, hr, hbk⟩ := h.bks j g hgj
      obtain ⟨-, -, hrr, -⟩ := hg.at hr
      obtain ⟨he0, he, hm0, hm⟩ := (rightR_iff r.e r.m).1 hrr
      have hHj := hH j r hr
      have ht := lTake_some x tg q cap j gs.length g rs cs now k r.e r.m (H j) now (by omega) a ha w N _ n h.lim h.trie hou hq hcs (by omega) (by omega) hbk hm0 (by omega)
      refine ht.mono ?_
      rintro e w' ⟨rfl, hgr, hb'⟩
      refine ⟨rfl, ?_, ⟨hgr.os, hgr.tape, hgr.output, hgr.size, fun i hi hne => hgr.block i hi (fun e => hne (by cases e; exact List.mem_of_getElem? hgj))⟩⟩
      have h9 := h.turn hgj hgr hr (y := ((if 0 ≤ k ∧ k ≤ H j then H j - k else H j), now)) hb'
      have e2 : (fun i => if i = j then ((if 0 ≤ k ∧ k ≤ H j then H j - k else H j), now) else ((fun k => (H k, now)) i)) = (fun i => (tkH H (some j) k i, now)) := by
        funext i
        unfold tkH
        dsimp only
        split <;> rfl
      rw [e2] at h9
      exact h9
end Addr05
end Go.Proofs.YtbcicbiphgeghaaDoor
