/- store, plain: a weight that is set leaves a configuration that may be; which node a name is of. No condition. -/
import Derived.Test.YtcpokkkdmenmgaaGreatDoorQStorePlays15
import Derived.Test.YtcpokkkdmenmgaaGreatDoorQStorePlays11
import Derived.Test.YtcpokkkdmenmgaaGreatDoorQStorePlays16
import Derived.Test.YtcpokkkdmenmgaaGreatDoorQStorePlays14
import Derived.Test.YtcpokkkdmenmgaaGreatDoorQStorePlays17
import Derived.Test.YtcpokkkdmenmgaaGreatDoorQStorePlays8
namespace Go.Proofs.YtcpokkkdmenmgaaGreatDoor
open Go.RowKit Go.ChangeShapes Go.WideShapes Go.ChangeAt Go.Deep
namespace Store20
open Conf18 (Nd Vp Vw Cfg zA)
open Addr05 (Adr)
open Tree16
open Val19
/-- A node without its weight. -/
def er (n : Nd) : Nd := { n with weight := 0 }
theorem clash_er (n x : Nd) : clash (er n) (er x) = clash n x := rfl
theorem any_er {l l' : List Nd} {n n' : Nd} (hl : l.map er = l'.map er) (hn : er n = er n') : l.any (clash n) = l'.any (clash n') := by
  have h : ∀ (l : List Nd) (n : Nd), l.any (clash n) = (l.map er).any (clash (er n)) := by
    intro l n
    rw [List.any_map]
    rfl
  rw [h l n, h l' n', hl, hn]
theorem placesN_er (p : Nd → Bool) (hp : ∀ n, p (er n) = p n) {l l' : List Nd} (hl : l.map er = l'.map er) : placesN p l = placesN p l' := by
  have h : ∀ l : List Nd, placesN p l = placesN p (l.map er) := by
    intro l
    unfold placesN
    rw [List.length_map]
    refine List.filter_congr fun i _ => ?_
    rw [List.getElem?_map]
    rcases l[i]? with _ | n
    · rfl
    · simp [hp n]
  rw [h l, h l', hl]
theorem topF_er {l l' : List Nd} (hl : l.map er = l'.map er) : topF l = topF l' := by
  unfold topF placesF
  rw [placesN_er _ (fun n => rfl) hl]
theorem hostsF_er {l l' : List Nd} (hl : l.map er = l'.map er) : hostsF l = hostsF l' := by
  unfold hostsF placesF
  rw [placesN_er _ (fun n => rfl) hl]
theorem getD_er {l l' : List Nd} {n n' : Nd} (hl : l.map er = l'.map er) (hn : er n = er n') (i : Nat) : (l.getD i n).kind = (l'.getD i n').kind := by
  have h : ∀ (l : List Nd) (n : Nd), (l.getD i n).kind = ((l.map er).getD i (er n)).kind := by
    intro l n
    rw [List.getD_eq_getElem?_getD, List.getD_eq_getElem?_getD, List.getElem?_map]
    rcases l[i]? with _ | n <;> rfl
  rw [h l n, h l' n', hl, hn]
/-- Whether a node may be hangs on weights in its own range alone. -/
theorem bad_er {l l' : List Nd} {n n' : Nd} (hl : l.map er = l'.map er) (hn : er n = er n') (hw : ¬(n'.weight < 0 ∨ 65535 < n'.weight ∨ (n'.kind = 1 ∧ n'.weight ≠ 0))) (h : badF n l = 0) : badF n' l' = 0 := by
  have hlen : l.length = l'.length := by
    have := congrArg List.length hl
    rwa [List.length_map, List.length_map] at this
  have e1 : n.name = n'.name := (congrArg Nd.name hn : (er n).name = (er n').name)
  have e2 : n.kind = n'.kind := (congrArg Nd.kind hn : (er n).kind = (er n').kind)
  have e3 : n.above = n'.above := (congrArg Nd.above hn : (er n).above = (er n').above)
  have e4 : n.a = n'.a := (congrArg Nd.a hn : (er n).a = (er n').a)
  have hr : rightF n l = 0 → rightF n' l' = 0 := by
    intro h
    unfold rightF at h ⊢
    rw [if_neg hw]
    rw [← e1, ← e2, ← e3, ← e4, ← hlen, ← any_er hl hn, ← getD_er hl hn]
    split at h
    · cases h
    · rename_i a1
      rw [if_neg a1]
      split at h
      · cases h
      · exact h
  unfold badF at h ⊢
  by_cases h1 : rightF n l = 0
  · rw [if_neg (fun h2 => h2 h1)] at h
    rw [if_neg (fun h2 => h2 (hr h1)), ← e2, ← hlen, ← topF_er hl, ← hostsF_er hl]
    exact h
  · rw [if_pos h1] at h
    exact absurd h h1
theorem treeE_iff (l : List Nd) : ∀ i, treeE l i = none ↔ ∀ (j : Nat) (n : Nd), j < i → l[j]? = some n → badF n (l.take j) = 0
  | 0 => ⟨fun _ j n hj => by omega, fun _ => rfl⟩
  | i + 1 => by
    have ih := treeE_iff l i
    constructor
    · intro h j n hj hn
      rw [treeE] at h
      rcases e : treeE l i with _ | p
      · rw [e] at h
        by_cases hji : j = i
        · subst hji
          rw [hn] at h
          dsimp only at h
          by_cases hb : badF n (l.take j) = 0
          · exact hb
          · rw [if_pos hb] at h
            cases h
        · exact ih.1 e j n (by omega) hn
      · rw [e] at h
        cases h
    · intro h
      have e := ih.2 fun j n hj hn => h j n (by omega) hn
      rw [treeE, e]
      rcases hn : l[i]? with _ | n
      · rfl
      · exact if_neg fun h2 => h2 (h i n (by omega) hn)
theorem treeF_iff (l : List Nd) : treeF l = none ↔ ∀ (j : Nat) (n : Nd), l[j]? = some n → badF n (l.take j) = 0 := by
  unfold treeF
  rw [treeE_iff]
  exact ⟨fun h j n hn => h j n (List.getElem?_eq_some_iff.1 hn).1 hn, fun h j n _ hn => h j n hn⟩
theorem bad_right {n : Nd} {l : List Nd} (h : badF n l = 0) : rightF n l = 0 ∧ ¬(1024 ≤ l.length ∨ (n.kind = 1 ∧ 4 ≤ (topF l).length) ∨ (n.kind = 4 ∧ 512 ≤ (hostsF l).length)) := by
  unfold badF at h
  by_cases h1 : rightF n l = 0
  · rw [if_neg (fun h2 => h2 h1)] at h
    refine ⟨h1, fun h3 => ?_⟩
    rw [if_pos h3] at h
    cases h
  · rw [if_pos h1] at h
    exact absurd h h1
theorem right_parts {n : Nd} {l : List Nd} (h : rightF n l = 0) : ¬(nameF n.name = false ∨ n.kind < 1 ∨ 4 < n.kind) ∧ ¬(n.weight < 0 ∨ 65535 < n.weight ∨ (n.kind = 1 ∧ n.weight ≠ 0)) ∧ ¬((n.kind = 1 ∧ n.above ≠ -1) ∨ (1 < n.kind ∧ (n.above < 0 ∨ (l.length : Int) ≤ n.above))) ∧ ¬(1 < n.kind ∧ (l.getD n.above.toNat n).kind ≠ n.kind - 1) ∧ ¬(rightA n.a = false ∨ (n.kind ≠ 4 ∧ n.a ≠ zA)) ∧ ¬(l.any (clash n)) = true := by
  unfold rightF at h
  repeat' split at h
  all_goals first | (cases h; done) | skip
  rename_i a1 a2 a3 a4 a5 a6
  exact ⟨a1, a2, a3, a4, a5, a6⟩
/-- Two nodes of a tree have two names. -/
theorem names_apart {l : List Nd} (h : treeF l = none) {i j : Nat} {n m : Nd} (hn : l[i]? = some n) (hm : l[j]? = some m) (he : n.name = m.name) : i = j := by
  have key : ∀ {i j : Nat} {n m : Nd}, l[i]? = some n → l[j]? = some m → n.name = m.name → ¬ i < j := by
    intro i j n m hn hm he hij
    have h1 := (right_parts (bad_right ((treeF_iff l).1 h j m hm)).1).2.2.2.2.2
    apply h1
    rw [List.any_eq_true]
    refine ⟨n, List.mem_of_getElem? (i := i) (by rw [List.getElem?_take, if_pos hij]; exact hn), ?_⟩
    unfold clash
    exact decide_eq_true (.inl he)
  have h1 := key hn hm he
  have h2 := key hm hn he.symm
  omega
/-- A node's weight is set. -/
def wtN (ns : List Nd) (k : Nat) (x : Int) : List Nd := match ns[k]? with
  | none => ns
  | some n => ns.set k { n with weight := x }
theorem wtN_er (ns : List Nd) (k : Nat) (x : Int) : (wtN ns k x).map er = ns.map er := by
  unfold wtN
  rcases e : ns[k]? with _ | n
  · rfl
  · dsimp only
    rw [List.map_set]
    refine List.ext_getElem? fun i => ?_
    by_cases hi : i = k
    · subst hi
      rw [List.getElem?_set, List.getElem?_map, e]
      simp only [if_pos, List.length_map, (List.getElem?_eq_some_iff.1 e).1]
      rfl
    · rw [List.getElem?_set_ne (Ne.symm hi)]
theorem wtN_len (ns : List Nd) (k : Nat) (x : Int) : (wtN ns k x).length = ns.length := by
  have := congrArg List.length (wtN_er ns k x)
  rwa [List.length_map, List.length_map] at this
theorem wtN_get {ns : List Nd} {k : Nat} {n : Nd} (hk : ns[k]? = some n) (x : Int) (j : Nat) (m : Nd) (h : (wtN ns k x)[j]? = some m) : (j = k ∧ m = { n with weight := x }) ∨ (j ≠ k ∧ ns[j]? = some m) := by
  unfold wtN at h
  rw [hk] at h
  dsimp only at h
  by_cases hj : j = k
  · subst hj
    rw [List.getElem?_set_self (List.getElem?_eq_some_iff.1 hk).1] at h
    exact .inl ⟨rfl, (Option.some.inj h).symm⟩
  · rw [List.getElem?_set_ne (Ne.symm hj)] at h
    exact .inr ⟨hj, h⟩
theorem treeF_wt {ns : List Nd} {k : Nat} {n : Nd} (h : treeF ns = none) (hk : ns[k]? = some n) (h4 : n.kind = 4) {x : Int} (h0 : 0 ≤ x) (h1 : x ≤ 65535) : treeF (wtN ns k x) = none := by
  rw [treeF_iff] at h ⊢
  intro j m hm
  have htake : (ns.take j).map er = ((wtN ns k x).take j).map er := by rw [List.map_take, List.map_take, wtN_er]
  rcases wtN_get hk x j m hm with ⟨rfl, rfl⟩ | ⟨hj, hm2⟩
  · exact bad_er (n := n) htake rfl (by simp only; omega) (h j n hk)
  · exact bad_er htake rfl (right_parts (bad_right (h j m hm2)).1).2.1 (h j m hm2)
def setW (c : Cfg) (k : Nat) (x : Int) : Cfg := { c with nodes := wtN c.nodes k x }
theorem validF_parts {c : Cfg} (h : validF c = 0) : plainF c = 0 ∧ treeF c.nodes = none ∧ selfB c = true ∧ rowE Val19.vipF c.vips c.vips.length = 0 ∧ rowE (fun v l => viewG v l (topF c.nodes).length) c.views c.views.length = 0 := by
  unfold validF at h
  by_cases h1 : plainF c = 0
  · rw [if_neg (fun h2 => h2 h1)] at h
    rcases e : treeF c.nodes with _ | p
    · rw [e] at h
      dsimp only at h
      by_cases h2 : selfB c = false
      · rw [if_pos h2] at h; cases h
      · rw [if_neg h2] at h
        by_cases h3 : rowE Val19.vipF c.vips c.vips.length = 0
        · rw [if_neg (fun h4 => h4 h3)] at h
          exact ⟨h1, rfl, by simpa using h2, h3, h⟩
        · rw [if_pos h3] at h
          exact absurd h h3
    · rw [e] at h
      dsimp only at h
      exfalso
      have : p.2 ≠ 0 := by
        have key : ∀ i, treeE c.nodes i = some p → p.2 ≠ 0 := by
          intro i
          induction i with
          | zero => intro h; cases h
          | succ i ih =>
            intro h
            rw [treeE] at h
            rcases e1 : treeE c.nodes i with _ | q
            · rw [e1] at h
              rcases e2 : c.nodes[i]? with _ | n
              · rw [e2] at h; cases h
              · rw [e2] at h
                dsimp only at h
                by_cases hb : badF n (c.nodes.take i) = 0
                · rw [if_neg (fun h2 => h2 hb)] at h; cases h
                · rw [if_pos hb] at h
                  cases h
                  exact hb
            · rw [e1] at h
              cases h
              exact ih e1
        exact key _ e
      exact this h
  · rw [if_pos h1] at h
    exact absurd h h1
theorem validF_mk {c : Cfg} (h1 : plainF c = 0) (h2 : treeF c.nodes = none) (h3 : selfB c = true) (h4 : rowE Val19.vipF c.vips c.vips.length = 0) (h5 : rowE (fun v l => viewG v l (topF c.nodes).length) c.views c.views.length = 0) : validF c = 0 := by
  unfold validF
  rw [if_neg (fun h => h h1), h2]
  dsimp only
  rw [if_neg (by rw [h3]; decide), if_neg (fun h => h h4)]
  exact h5
/-- A host's weight may be set. -/
theorem valid_wt {c : Cfg} {k : Nat} {n : Nd} (h : validF c = 0) (hk : c.nodes[k]? = some n) (h4 : n.kind = 4) {x : Int} (h0 : 0 ≤ x) (h1 : x ≤ 65535) : validF (setW c k x) = 0 := by
  obtain ⟨a1, a2, a3, a4, a5⟩ := validF_parts h
  refine validF_mk a1 (treeF_wt a2 hk h4 h0 h1) ?_ a4 ?_
  · have hs : ∀ (c : Cfg), selfB c = (c.nodes.map er).all (selfN c) := by
      intro c
      unfold selfB
      rw [List.all_map]
      rfl
    rw [hs] at a3 ⊢
    show ((wtN c.nodes k x).map er).all (selfN c) = true
    rw [wtN_er]
    exact a3
  · show rowE (fun v l => viewG v l (topF (wtN c.nodes k x)).length) c.views c.views.length = 0
    rw [topF_er (wtN_er c.nodes k x)]
    exact a5
/-- The place of the host of a name. -/
def hostOf (ns : List Nd) (s : List UInt8) : Option Nat := match ns.findIdx? (fun n => decide (n.name = s)) with
  | none => none
  | some k => match ns[k]? with
    | none => none
    | some n => if n.kind = 4 then some k else none
theorem hostOf_hit {ns : List Nd} (h : treeF ns = none) {s : List UInt8} {k : Nat} {n : Nd} (hk : ns[k]? = some n) (hs : n.name = s) (h4 : n.kind = 4) : hostOf ns s = some k := by
  have hkl := (List.getElem?_eq_some_iff.1 hk).1
  unfold hostOf
  rcases e : ns.findIdx? (fun n => decide (n.name = s)) with _ | j
  · rw [List.findIdx?_eq_none_iff] at e
    have := e n (List.mem_of_getElem? hk)
    simp [hs] at this
  · have e' := e
    rw [List.findIdx?_eq_some_iff_getElem] at e'
    obtain ⟨hj, he, _⟩ := e'
    have hj1 : ns[j]? = some (ns[j]) := List.getElem?_eq_getElem hj
    have : j = k := names_apart h hj1 hk (by rw [hs]; simpa using he)
    subst this
    rw [e]
    dsimp only
    rw [hk]
    exact if_pos h4
theorem hostOf_miss {ns : List Nd} {s : List UInt8} (h : ∀ (j : Nat) (n : Nd), ns[j]? = some n → ¬(n.name = s ∧ n.kind = 4)) : hostOf ns s = none := by
  unfold hostOf
  rcases e : ns.findIdx? (fun n => decide (n.name = s)) with _ | j
  · rw [e]
  · have e' := e
    rw [List.findIdx?_eq_some_iff_getElem] at e'
    obtain ⟨hj, he, _⟩ := e'
    rw [e]
    dsimp only
    rw [List.getElem?_eq_getElem hj]
    exact if_neg fun h4 => h j _ (List.getElem?_eq_getElem hj) ⟨by simpa using he, h4⟩
theorem hostOf_some {ns : List Nd} {s : List UInt8} {k : Nat} (h : hostOf ns s = some k) : ∃ n, ns[k]? = some n ∧ n.name = s ∧ n.kind = 4 ∧ findF ns s = (k : Int) := by
  unfold hostOf at h
  rcases e : ns.findIdx? (fun n => decide (n.name = s)) with _ | j
  · rw [e] at h; cases h
  · rw [e] at h
    dsimp only at h
    rcases e2 : ns[j]? with _ | n
    · rw [e2] at h; cases h
    · rw [e2] at h
      dsimp only at h
      by_cases h4 : n.kind = 4
      · rw [if_pos h4] at h
        cases h
        have e3 := e
        rw [List.findIdx?_eq_some_iff_getElem] at e3
        obtain ⟨hj, he, _⟩ := e3
        refine ⟨n, e2, ?_, h4, by unfold findF; rw [e]⟩
        rw [List.getElem?_eq_getElem hj] at e2
        cases e2
        simpa using he
      · rw [if_neg h4] at h; cases h
/-! ### The store. -/
structure St where
  c : Option Cfg
  gen : Nat
  sets : List UInt8 → Option Nat
def loadS (S : St) (t : List UInt8) : St × Int × Int := match Conf18.confF t with
  | .error p => (S, (p.1 : Int), p.2)
  | .ok c => if validF c ≠ 0 then (S, 0, (validF c : Int)) else (⟨some c, S.gen + 1, fun _ => none⟩, 0, 0)
def weightS (S : St) (s : List UInt8) (x : Int) : St × Nat := match S.c with
  | none => (S, 9)
  | some c => if x < 0 ∨ 65535 < x then (S, 17) else match hostOf c.nodes s with
    | none => (S, 7)
    | some k => (⟨some (setW c k x), S.gen + 1, fun y => if y = s then some x.toNat else S.sets y⟩, 0)
def St.ok (S : St) (M : Nat) : Prop := ∀ c, S.c = some c → validF c = 0 ∧ c.good M
theorem good_wt {c : Cfg} {M k : Nat} {n : Nd} {x : Int} (h : c.good M) (hk : c.nodes[k]? = some n) : (setW c k x).good M := by
  refine ⟨fun m hm => ?_, h.vips, h.views, h.s0, h.s1⟩
  obtain ⟨j, hj⟩ := List.mem_iff_getElem?.1 hm
  rcases wtN_get hk x j m hj with ⟨rfl, rfl⟩ | ⟨_, hm2⟩
  · exact h.nodes n (List.mem_of_getElem? hk)
  · exact h.nodes m (List.mem_of_getElem? hm2)
theorem load_ok {S : St} {M : Nat} (h : S.ok M) {t : List UInt8} (ht : t.length ≤ M) : (loadS S t).1.ok M := by
  unfold loadS
  rcases e : Conf18.confF t with p | c
  · exact h
  · dsimp only
    split
    · exact h
    · rename_i hv
      intro c2 hc
      cases hc
      refine ⟨Decidable.byContradiction hv, ?_⟩
      have hg := Conf18.confF_good e
      exact ⟨fun n hn => ⟨(hg.nodes n hn).1, Nat.le_trans (hg.nodes n hn).2 ht⟩, hg.vips, hg.views, hg.s0, hg.s1⟩
theorem weight_ok {S : St} {M : Nat} (h : S.ok M) (s : List UInt8) (x : Int) : (weightS S s x).1.ok M := by
  unfold weightS
  rcases e : S.c with _ | c
  · exact h
  · dsimp only
    split
    · exact h
    · rename_i hx
      rcases e2 : hostOf c.nodes s with _ | k
      · exact h
      · dsimp only
        obtain ⟨n, h1, h2, h3, h4⟩ := hostOf_some e2
        intro c2 hc
        cases hc
        obtain ⟨g1, g2⟩ := h c e
        exact ⟨valid_wt g1 h1 h3 (by omega) (by omega), good_wt g2 h1⟩
end Store20
end Go.Proofs.YtcpokkkdmenmgaaGreatDoor
/- valid: vip: an address behind others. Condition: fewer than 2^40 others. -/
namespace Go.Proofs.YtcpokkkdmenmgaaGreatDoor
open Go.RowKit Go.ChangeShapes Go.WideShapes Go.ChangeAt Go.Deep
namespace Val19
open Conf18 (Nd Vp Vw Cfg zA ndC vpC vwC cfC CfgR lt_of_blk isRel_below alloc_vp vp_one)
open Addr05 (Adr)
open Tree16 (rightA treeF topF rightA_is)
def vpA (v : Vp) : Array Value := #[.bool v.a.v6, .int .u64 (v.a.hi : Int), .int .u64 (v.a.lo : Int), .int .i64 v.proto, .int .i64 v.port, .int .i64 v.copies, .bool v.nat]
theorem vipF_tests (v : Vp) (l : List Vp) : vipF v l = if (!rightA v.a) = true then 18 else if ((v.proto != 6) && (v.proto != 17)) = true then 14
    else if (decide (v.port < 0) || decide (65535 < v.port) || decide (v.copies < 1) || decide (8 < v.copies) || (decide (1 < v.copies) && (v.proto != 17))) = true then 5 else if (l.any (twinV v)) = true then 8 else 0 := by
  unfold vipF
  have h1 : rightA v.a = false ↔ (!rightA v.a) = true := by simp
  have h2 : (v.proto ≠ 6 ∧ v.proto ≠ 17) ↔ ((v.proto != 6) && (v.proto != 17)) = true := by simp
  have h3 : (v.port < 0 ∨ 65535 < v.port ∨ v.copies < 1 ∨ 8 < v.copies ∨ (1 < v.copies ∧ v.proto ≠ 17)) ↔ (decide (v.port < 0) || decide (65535 < v.port) || decide (v.copies < 1) || decide (8 < v.copies) || (decide (1 < v.copies) && (v.proto != 17))) = true := by simp [or_assoc]
  simp only [h1, h2, h3]
set_option maxRecDepth 20000 in
set_option maxHeartbeats 16000000 in
theorem vip_any (v : Vp) (l : List Vp) (n cap : Nat) (A : Option Addr) (w : World) (h : IsT vpC 7 w w.heap.size A n l) (hn : n ≤ 1099511627776) :
    Calls Tryz.prog 37 #[.agg (vpA v), .slice A n cap] w fun e w' => e = .returned (.int .i64 (vipF v l : Int)) ∧ Below w.heap.size w w' := by
  obtain ⟨X, hX⟩ : ∃ X, vipF v l = X := ⟨_, rfl⟩
  rw [hX]
  rw [vipF_tests] at hX
  obtain ⟨⟨v6, hi, lo⟩, pr, po, co, nt⟩ := v
  unfold vpA
  dsimp only at hX ⊢
  have hlen := h.1
  obtain ⟨T, hT⟩ : ∃ b, (l.any (twinV ⟨⟨v6, hi, lo⟩, pr, po, co, nt⟩)) = b := ⟨_, rfl⟩
  rw [hT] at hX
  have hT1 : ∀ (i : Nat) (x : Vp), l[i]? = some x → twinV ⟨⟨v6, hi, lo⟩, pr, po, co, nt⟩ x = true → T = true := by
    intro i x hx hf
    rw [← hT, List.any_eq_true]
    exact ⟨x, List.mem_of_getElem? hx, hf⟩
  have hT2 : (∀ (i : Nat) (x : Vp), l[i]? = some x → twinV ⟨⟨v6, hi, lo⟩, pr, po, co, nt⟩ x = false) → T = false := by
    intro hf
    rw [← hT, List.any_eq_false]
    intro x hx
    obtain ⟨i, hi⟩ := List.mem_iff_getElem?.1 hx
    rw [hf i x hi]
    decide
  unfold twinV at hT1 hT2
  dsimp only at hT1 hT2
  obtain ⟨w1, hw1⟩ : ∃ w1, w.alloc (.cells #[.bool v6, .int .u64 (hi : Int), .int .u64 (lo : Int), .int .i64 pr, .int .i64 po, .int .i64 co, .bool nt] 70) = w1 := ⟨_, rfl⟩
  have hb1 : Below w.heap.size w w1 := hw1 ▸ (Below.refl _ _).alloc (Nat.le_refl _) _
  have hg1 : w1.heap[w.heap.size]? = some (.cells #[.bool v6, .int .u64 (hi : Int), .int .u64 (lo : Int), .int .i64 pr, .int .i64 po, .int .i64 co, .bool nt] 70 (0, 0)) := hw1 ▸ blk_new _ _ _
  have hz1 := lt_of_blk hg1
  have h1 := h.below hb1
  have e0 := blk_cell hg1 0
  have e1 := blk_cell hg1 1
  have e2 := blk_cell hg1 2
  have q := Addr05.Right_any v6 hi lo w1
  rw [rightA_is ⟨v6, hi, lo⟩] at q
  obtain ⟨R, hR⟩ : ∃ b, rightA ⟨v6, hi, lo⟩ = b := ⟨_, rfl⟩
  rw [hR] at q hX
  clear hR hT h
  replace hb1 := hide hb1
  replace hg1 := hide hg1
  replace hX := hide hX
  replace q := hide q
  replace hT1 := hide hT1
  replace hT2 := hide hT2
  replace h1 := hide h1
  go_enter Tryz.func37, Tryz.ntmps37
  go_upto_region 1 with fail
  clear hw1
  go_wp2_with fail
  refine (q.out).mono ?_
  rintro e w2 ⟨rfl, hb2⟩
  have hB := hb1.out.trans (hb2.mono hb1.out.size)
  have hz2 := hb2.size
  have hg2 := blk_below hb2 hz1 hg1.out
  have h2 := h1.out.below (hb2.mono (by omega))
  have e3 := blk_cell hg2 3
  have e4 := blk_cell hg2 4
  have e5 := blk_cell hg2 5
  have hX1 := hX.out
  clear e0 e1 e2 q hX hb1 hb2 hg1 h1
  replace hB := hide hB
  replace hg2 := hide hg2
  replace h2 := hide h2
  cases R
  case false =>
    obtain rfl : 18 = X := by rw [← hX1]; rfl
    go_wp2_with fail
    go_ret
    exact ⟨rfl, hB.out⟩
  case true =>
  rw [if_neg (by decide)] at hX1
  obtain ⟨p6, hp6⟩ : ∃ b, (pr != 6) = b := ⟨_, rfl⟩
  obtain ⟨p17, hp17⟩ : ∃ b, (pr != 17) = b := ⟨_, rfl⟩
  rw [hp6, hp17] at hX1
  obtain ⟨P1, hP1⟩ : ∃ b, (p6 && p17) = b := ⟨_, rfl⟩
  rw [hP1] at hX1
  replace hX1 := hide hX1
  go_upto_region 3 with fail
  go_cut [12] (fun bv wx => bv = .bool P1 ∧ w2 = wx)
  case first =>
    clear hX1 hT1 hT2
    cases p6
    · obtain rfl : false = P1 := hP1
      go_wp2_with fail
      go_meet
      exact ⟨rfl, rfl⟩
    · obtain rfl : p17 = P1 := hP1
      go_wp2_with fail
      go_meet
      exact ⟨rfl, rfl⟩
  case rest =>
  obtain ⟨rfl, rfl⟩ := hcut
  have hX2 := hX1.out
  clear hX1 hP1 hp6
  cases P1
  case true =>
    obtain rfl : 14 = X := by rw [← hX2]; rfl
    go_wp2_with fail
    go_ret
    exact ⟨rfl, hB.out⟩
  case false =>
  rw [if_neg (by decide)] at hX2
  obtain ⟨b1, hb1⟩ : ∃ b, decide (po < 0) = b := ⟨_, rfl⟩
  obtain ⟨b2, hb2⟩ : ∃ b, decide (65535 < po) = b := ⟨_, rfl⟩
  obtain ⟨b3, hb3⟩ : ∃ b, decide (co < 1) = b := ⟨_, rfl⟩
  obtain ⟨b4, hb4⟩ : ∃ b, decide (8 < co) = b := ⟨_, rfl⟩
  obtain ⟨b5, hb5⟩ : ∃ b, decide (1 < co) = b := ⟨_, rfl⟩
  rw [hb1, hb2, hb3, hb4, hb5] at hX2
  obtain ⟨P2, hP2⟩ : ∃ b, (b1 || b2 || b3 || b4 || (b5 && p17)) = b := ⟨_, rfl⟩
  rw [hP2] at hX2
  replace hX2 := hide hX2
  go_upto_region 5 with fail
  go_cut [21] (fun bv wx => bv = .bool P2 ∧ w2 = wx)
  case first =>
    clear hX2 hT1 hT2
    cases b1
    · cases b2
      · cases b3
        · cases b4
          · cases b5
            · obtain rfl : false = P2 := hP2
              go_wp2_with fail
              go_meet
              exact ⟨rfl, rfl⟩
            · obtain rfl : p17 = P2 := hP2
              go_wp2_with fail
              go_meet
              exact ⟨rfl, rfl⟩
          · obtain rfl : true = P2 := hP2
            go_wp2_with fail
            go_meet
            exact ⟨rfl, rfl⟩
        · obtain rfl : true = P2 := by rw [← hP2]; simp
          go_wp2_with fail
          go_meet
          exact ⟨rfl, rfl⟩
      · obtain rfl : true = P2 := by rw [← hP2]; simp
        go_wp2_with fail
        go_meet
        exact ⟨rfl, rfl⟩
    · obtain rfl : true = P2 := by rw [← hP2]; simp
      go_wp2_with fail
      go_meet
      exact ⟨rfl, rfl⟩
  case rest =>
  obtain ⟨rfl, rfl⟩ := hcut
  have hX3 := hX2.out
  clear hX2 hP2 hb1 hb2 hb3 hb4 hb5 hp17
  cases P2
  case true =>
    obtain rfl : 5 = X := by rw [← hX3]; rfl
    go_wp2_with fail
    go_ret
    exact ⟨rfl, hB.out⟩
  case false =>
  rw [if_neg (by decide)] at hX3
  clear e3 e4 e5
  replace hX3 := hide hX3
  go_wp2_with fail
  go_loopw [6, 52] (fun _ iv wr => ∃ i : Nat, i ≤ n ∧ iv = .int .i64 (i : Int) ∧ (∀ (j : Nat) (x : Vp), j < i → l[j]? = some x → decide (x.a = (⟨v6, hi, lo⟩ : Adr) ∧ x.proto = pr ∧ x.port = po) = false) ∧ Below w2.heap.size w2 wr) (fun _ iv _ => n - (intOf iv).toNat)
  case atStart => exact ⟨0, by omega, rfl, fun j x hj => by omega, Below.refl _ _⟩
  case round =>
    obtain ⟨i, hi0, rfl, hno, hBr⟩ := hrel
    have hzr := hBr.size
    by_cases hin : i < n
    · have hlt : (i : Int) < (n : Int) := by omega
      obtain ⟨b, off, nd, rfl, hbk, hni, hcell⟩ := IsT.at (f := vpC) (size := 7) (fun _ => rfl) (by decide) (h2.out.below (hBr.mono (by omega))) hin
      have wi1 : IntKind.i64.wrap ((i : Int) + 1) = ((i + 1 : Nat) : Int) := by rw [wraps62 _ (by omega) (by omega)]; omega
      have hTi := hT1.out i nd hni
      have hno2 : decide (nd.a = (⟨v6, hi, lo⟩ : Adr) ∧ nd.proto = pr ∧ nd.port = po) = false → ∀ (j : Nat) (x : Vp), j < i + 1 → l[j]? = some x → decide (x.a = (⟨v6, hi, lo⟩ : Adr) ∧ x.proto = pr ∧ x.port = po) = false := by
        intro he j x hj hd
        by_cases hji : j = i
        · subst hji
          obtain rfl := Option.some.inj (hni.symm.trans hd)
          exact he
        · exact hno j x (by omega) hd
      clear hno hni
      obtain ⟨⟨x6, xh, xl⟩, xp, xo, xc, xn⟩ := nd
      dsimp only at hTi hno2
      have y0 : wr.cell? ⟨b, off + i * 7, none⟩ = some (.bool x6) := hcell 0 _ rfl
      have y1 : wr.cell? ⟨b, off + i * 7 + 1, none⟩ = some (.int .u64 (xh : Int)) := hcell 1 _ rfl
      have y2 : wr.cell? ⟨b, off + i * 7 + 2, none⟩ = some (.int .u64 (xl : Int)) := hcell 2 _ rfl
      have y3 : wr.cell? ⟨b, off + i * 7 + 3, none⟩ = some (.int .i64 xp) := hcell 3 _ rfl
      have y4 : wr.cell? ⟨b, off + i * 7 + 4, none⟩ = some (.int .i64 xo) := hcell 4 _ rfl
      have y5 : wr.cell? ⟨b, off + i * 7 + 5, none⟩ = some (.int .i64 xc) := hcell 5 _ rfl
      have y6 : wr.cell? ⟨b, off + i * 7 + 6, none⟩ = some (.bool xn) := hcell 6 _ rfl
      clear hcell
      obtain ⟨E, hE⟩ : ∃ b, decide ((⟨x6, xh, xl⟩ : Adr) = ⟨v6, hi, lo⟩) = b := ⟨_, rfl⟩
      obtain ⟨ep, hep⟩ : ∃ b, decide (xp = pr) = b := ⟨_, rfl⟩
      obtain ⟨eo, heo⟩ : ∃ b, decide (xo = po) = b := ⟨_, rfl⟩
      have hep2 : (xp == pr) = ep := by rw [← hep]; rfl
      have heo2 : (xo == po) = eo := by rw [← heo]; rfl
      obtain ⟨B, hBB⟩ : ∃ b, (E && (ep && eo)) = b := ⟨_, rfl⟩
      have hd4 : decide ((⟨x6, xh, xl⟩ : Adr) = ⟨v6, hi, lo⟩ ∧ xp = pr ∧ xo = po) = B := by rw [Bool.decide_and, Bool.decide_and, hE, hep, heo, hBB]
      rw [hd4] at hTi hno2
      clear hd4 hep heo
      replace hTi := hide hTi
      replace hno2 := hide hno2
      replace hBr := hide hBr
      go_upto_region 9 with fail
      apply wp_region_lit
      iterate 2 (refine wpList_plain rfl fun K hK => ?_; go_simp; refine hK _ _ ?_; clear hK K)
      refine wpl_new rfl rfl 70 _ (alloc_vp _ rfl) 6 rfl (.tmp 55) rfl _ (fun _ => rfl) (fun _ => rfl) rfl (by kernel_rfl) (vp_one x6 (xh : Int) (xl : Int) xp xo xc xn) ?_
      intro w4 hg4 hb4 hz4
      refine wpList_nil ?_
      go_simp
      have hB4 := hBr.out.trans (hb4.mono hzr)
      have hg14 := blk_below hB4 (by omega) hg2.out
      have d0 := blk_cell hg4 0
      have d1 := blk_cell hg4 1
      have d2 := blk_cell hg4 2
      have d3 := blk_cell hg4 3
      have d4 := blk_cell hg4 4
      have e0 := blk_cell hg14 0
      have e1 := blk_cell hg14 1
      have e2 := blk_cell hg14 2
      have e3 := blk_cell hg14 3
      have e4 := blk_cell hg14 4
      clear y0 y1 y2 y3 y4 y5 y6 hb4 hg4 hg14 hBr
      replace hB4 := hide hB4
      go_upto_region 10 with fail
      go_cut [74] (fun bv wx => bv = .bool B ∧ w4 = wx)
      case first =>
        clear hTi hno2 hX3 hT1 hT2
        cases E
        · obtain rfl : false = B := hBB
          have hz0 := of_decide_eq_false hE
          clear hE
          by_cases h6 : x6 = v6
          · subst h6
            by_cases hh : xh = hi
            · subst hh
              have hl0 : ¬ (xl : Int) = (lo : Int) := fun h => hz0 (by rw [show xl = lo by omega])
              clear hz0
              go_wp2_with fail
              go_meet
              exact ⟨rfl, rfl⟩
            · have hh0 : ¬ (xh : Int) = (hi : Int) := by omega
              clear hz0
              go_wp2_with fail
              go_meet
              exact ⟨rfl, rfl⟩
          · clear hz0
            go_wp2_with fail
            go_meet
            exact ⟨rfl, rfl⟩
        · have hz0 := of_decide_eq_true hE
          obtain ⟨rfl, rfl, rfl⟩ : x6 = v6 ∧ xh = hi ∧ xl = lo := by cases hz0; exact ⟨rfl, rfl, rfl⟩
          clear hE hz0
          cases ep
          · obtain rfl : false = B := hBB
            go_wp2_with fail
            go_meet
            exact ⟨rfl, rfl⟩
          · obtain rfl : eo = B := hBB
            go_wp2_with fail
            go_meet
            exact ⟨rfl, rfl⟩
      case rest =>
      obtain ⟨rfl, rfl⟩ := hcut
      clear hE hBB hep2 heo2 d0 d1 d2 d3 d4 e0 e1 e2 e3 e4
      cases B
      · have hno3 := hno2.out rfl
        clear hTi hno2
        replace hno3 := hide hno3
        go_wp2_with fail
        exact ⟨⟨i + 1, by omega, by first | rfl | go_num, hno3.out, hB4.out⟩, by simp only [intOf]; omega⟩
      · obtain rfl := hTi.out rfl
        obtain rfl : 8 = X := hX3.out
        clear hTi hno2
        go_wp2_with fail
        go_ret
        exact ⟨rfl, hB.out.trans (hB4.out.mono hB.out.size)⟩
    · obtain rfl : i = n := by omega
      have hlt : ((i : Int) < (i : Int)) = False := by simp
      have hTn := hT2.out (fun j x hd => by
        by_cases hj : j < i
        · exact hno j x hj hd
        · have h5 := (List.getElem?_eq_some_iff.1 hd).1
          omega)
      subst hTn
      obtain rfl : 0 = X := hX3.out
      clear hno
      replace hBr := hide hBr
      go_wp2_with fail
      go_ret
      exact ⟨rfl, hB.out.trans (hBr.out.mono hB.out.size)⟩
end Val19
end Go.Proofs.YtcpokkkdmenmgaaGreatDoor
/- valid: view: a prefix behind others. Conditions: fewer than 2^40 others, numbers of 64 bits. -/
namespace Go.Proofs.YtcpokkkdmenmgaaGreatDoor
open Go.RowKit Go.ChangeShapes Go.WideShapes Go.ChangeAt Go.Deep
namespace Val19
open Conf18 (Nd Vp Vw Cfg zA ndC vpC vwC cfC CfgR lt_of_blk isRel_below)
open Addr05 (Adr rightP pRight_any pArr)
open Tree16 (rightA treeF topF rightA_is)
theorem alloc_vw (o : Oper) (h : o.op = .alloc 74) (ρ : Operand → Value) (w : World) : (execOp ρ o).run Tryz.prog w = .ok (.value (.pointer (some ⟨w.heap.size, 0, none⟩))) (w.alloc (.cells #[.bool false, .int .u64 0, .int .u64 0, .int .i64 0, .int .i64 0] 74)) := by
  obtain ⟨d, op, t, ps, af, g⟩ := o
  dsimp only at h
  subst h
  kernel_rfl
theorem vw_one (v6 : Bool) (hi lo p q : Int) : (#[.bool v6, .int .u64 hi, .int .u64 lo, .int .i64 p, .int .i64 q] : Array Value).all (·.oneCell') = true := all_oneCell_toArray (by
  intro u hu
  simp only [List.mem_cons, List.not_mem_nil, or_false] at hu
  rcases hu with rfl | rfl | rfl | rfl | rfl <;> rfl)
def vwA (v : Vw) : Array Value := #[.bool v.a.v6, .int .u64 (v.a.hi : Int), .int .u64 (v.a.lo : Int), .int .i64 v.bits, .int .i64 v.level]
theorem viewG_tests (v : Vw) (l : List Vw) (L : Nat) : viewG v l L = if (!rightP v.a v.bits) = true then 18 else if (decide (v.level < 0) || decide ((L : Int) ≤ v.level)) = true then 5 else if (l.any (twinW v)) = true then 8 else 0 := by
  unfold viewG
  have h1 : rightP v.a v.bits = false ↔ (!rightP v.a v.bits) = true := by simp
  have h3 : (v.level < 0 ∨ (L : Int) ≤ v.level) ↔ (decide (v.level < 0) || decide ((L : Int) ≤ v.level)) = true := by simp
  simp only [h1, h3]
set_option maxRecDepth 20000 in
set_option maxHeartbeats 16000000 in
theorem view_any (v : Vw) (hok : v.a.ok) (l : List Vw) (n cap L : Nat) (A : Option Addr) (w : World) (h : IsT vwC 5 w w.heap.size A n l) (hn : n ≤ 1099511627776) :
    Calls Tryz.prog 38 #[.agg (vwA v), .slice A n cap, .int .i64 (L : Int)] w fun e w' => e = .returned (.int .i64 (viewG v l L : Int)) ∧ Below w.heap.size w w' := by
  obtain ⟨X, hX⟩ : ∃ X, viewG v l L = X := ⟨_, rfl⟩
  rw [hX]
  rw [viewG_tests] at hX
  obtain ⟨⟨v6, hi, lo⟩, bi, lv⟩ := v
  unfold vwA
  dsimp only at hX hok ⊢
  have hlen := h.1
  obtain ⟨T, hT⟩ : ∃ b, (l.any (twinW ⟨⟨v6, hi, lo⟩, bi, lv⟩)) = b := ⟨_, rfl⟩
  rw [hT] at hX
  have hT1 : ∀ (i : Nat) (x : Vw), l[i]? = some x → twinW ⟨⟨v6, hi, lo⟩, bi, lv⟩ x = true → T = true := by
    intro i x hx hf
    rw [← hT, List.any_eq_true]
    exact ⟨x, List.mem_of_getElem? hx, hf⟩
  have hT2 : (∀ (i : Nat) (x : Vw), l[i]? = some x → twinW ⟨⟨v6, hi, lo⟩, bi, lv⟩ x = false) → T = false := by
    intro hf
    rw [← hT, List.any_eq_false]
    intro x hx
    obtain ⟨i, hi⟩ := List.mem_iff_getElem?.1 hx
    rw [hf i x hi]
    decide
  unfold twinW at hT1 hT2
  dsimp only at hT1 hT2
  obtain ⟨w1, hw1⟩ : ∃ w1, w.alloc (.cells #[.bool v6, .int .u64 (hi : Int), .int .u64 (lo : Int), .int .i64 bi, .int .i64 lv] 74) = w1 := ⟨_, rfl⟩
  have hb1 : Below w.heap.size w w1 := hw1 ▸ (Below.refl _ _).alloc (Nat.le_refl _) _
  have hg1 : w1.heap[w.heap.size]? = some (.cells #[.bool v6, .int .u64 (hi : Int), .int .u64 (lo : Int), .int .i64 bi, .int .i64 lv] 74 (0, 0)) := hw1 ▸ blk_new _ _ _
  have hz1 := lt_of_blk hg1
  have h1 := h.below hb1
  have e0 := blk_cell hg1 0
  have e1 := blk_cell hg1 1
  have e2 := blk_cell hg1 2
  have e3 := blk_cell hg1 3
  have q := pRight_any ⟨v6, hi, lo⟩ hok bi w1
  unfold pArr at q
  obtain ⟨R, hR⟩ : ∃ b, rightP ⟨v6, hi, lo⟩ bi = b := ⟨_, rfl⟩
  rw [hR] at q hX
  dsimp only at q
  clear hR hT h
  replace hb1 := hide hb1
  replace hg1 := hide hg1
  replace hX := hide hX
  replace q := hide q
  replace hT1 := hide hT1
  replace hT2 := hide hT2
  replace h1 := hide h1
  go_enter Tryz.func38, Tryz.ntmps38
  go_upto_region 1 with fail
  clear hw1
  go_wp2_with fail
  refine (q.out).mono ?_
  rintro e w2 ⟨rfl, hb2⟩
  have hB := hb1.out.trans (hb2.mono hb1.out.size)
  have hz2 := hb2.size
  have hg2 := blk_below hb2 hz1 hg1.out
  have h2 := h1.out.below (hb2.mono (by omega))
  have e4 := blk_cell hg2 4
  have hX1 := hX.out
  clear e0 e1 e2 e3 q hX hb1 hb2 hg1 h1
  replace hB := hide hB
  replace hg2 := hide hg2
  replace h2 := hide h2
  cases R
  case false =>
    obtain rfl : 18 = X := by rw [← hX1]; rfl
    go_wp2_with fail
    go_ret
    exact ⟨rfl, hB.out⟩
  case true =>
  rw [if_neg (by decide)] at hX1
  obtain ⟨b1, hb1⟩ : ∃ b, decide (lv < 0) = b := ⟨_, rfl⟩
  obtain ⟨b2, hb2⟩ : ∃ b, decide ((L : Int) ≤ lv) = b := ⟨_, rfl⟩
  rw [hb1, hb2] at hX1
  obtain ⟨P1, hP1⟩ : ∃ b, (b1 || b2) = b := ⟨_, rfl⟩
  rw [hP1] at hX1
  replace hX1 := hide hX1
  go_upto_region 3 with fail
  go_cut [14] (fun bv wx => bv = .bool P1 ∧ w2 = wx)
  case first =>
    clear hX1 hT1 hT2
    cases b1
    · obtain rfl : b2 = P1 := hP1
      go_wp2_with fail
      go_meet
      exact ⟨rfl, rfl⟩
    · obtain rfl : true = P1 := hP1
      go_wp2_with fail
      go_meet
      exact ⟨rfl, rfl⟩
  case rest =>
  obtain ⟨rfl, rfl⟩ := hcut
  have hX3 := hX1.out
  clear hX1 hP1 hb1 hb2
  cases P1
  case true =>
    obtain rfl : 5 = X := by rw [← hX3]; rfl
    go_wp2_with fail
    go_ret
    exact ⟨rfl, hB.out⟩
  case false =>
  rw [if_neg (by decide)] at hX3
  clear e4
  replace hX3 := hide hX3
  go_wp2_with fail
  go_loopw [8, 26] (fun _ iv wr => ∃ i : Nat, i ≤ n ∧ iv = .int .i64 (i : Int) ∧ (∀ (j : Nat) (x : Vw), j < i → l[j]? = some x → decide (x.a = (⟨v6, hi, lo⟩ : Adr) ∧ x.bits = bi) = false) ∧ Below w2.heap.size w2 wr) (fun _ iv _ => n - (intOf iv).toNat)
  case atStart => exact ⟨0, by omega, rfl, fun j x hj => by omega, Below.refl _ _⟩
  case round =>
    obtain ⟨i, hi0, rfl, hno, hBr⟩ := hrel
    have hzr := hBr.size
    by_cases hin : i < n
    · have hlt : (i : Int) < (n : Int) := by omega
      obtain ⟨b, off, nd, rfl, hbk, hni, hcell⟩ := IsT.at (f := vwC) (size := 5) (fun _ => rfl) (by decide) (h2.out.below (hBr.mono (by omega))) hin
      have wi1 : IntKind.i64.wrap ((i : Int) + 1) = ((i + 1 : Nat) : Int) := by rw [wraps62 _ (by omega) (by omega)]; omega
      have hTi := hT1.out i nd hni
      have hno2 : decide (nd.a = (⟨v6, hi, lo⟩ : Adr) ∧ nd.bits = bi) = false → ∀ (j : Nat) (x : Vw), j < i + 1 → l[j]? = some x → decide (x.a = (⟨v6, hi, lo⟩ : Adr) ∧ x.bits = bi) = false := by
        intro he j x hj hd
        by_cases hji : j = i
        · subst hji
          obtain rfl := Option.some.inj (hni.symm.trans hd)
          exact he
        · exact hno j x (by omega) hd
      clear hno hni
      obtain ⟨⟨x6, xh, xl⟩, xb, xv⟩ := nd
      dsimp only at hTi hno2
      have y0 : wr.cell? ⟨b, off + i * 5, none⟩ = some (.bool x6) := hcell 0 _ rfl
      have y1 : wr.cell? ⟨b, off + i * 5 + 1, none⟩ = some (.int .u64 (xh : Int)) := hcell 1 _ rfl
      have y2 : wr.cell? ⟨b, off + i * 5 + 2, none⟩ = some (.int .u64 (xl : Int)) := hcell 2 _ rfl
      have y3 : wr.cell? ⟨b, off + i * 5 + 3, none⟩ = some (.int .i64 xb) := hcell 3 _ rfl
      have y4 : wr.cell? ⟨b, off + i * 5 + 4, none⟩ = some (.int .i64 xv) := hcell 4 _ rfl
      clear hcell
      obtain ⟨E, hE⟩ : ∃ b, decide ((⟨x6, xh, xl⟩ : Adr) = ⟨v6, hi, lo⟩) = b := ⟨_, rfl⟩
      obtain ⟨ep, hep⟩ : ∃ b, decide (xb = bi) = b := ⟨_, rfl⟩
      obtain ⟨B, hBB⟩ : ∃ b, (E && ep) = b := ⟨_, rfl⟩
      have hd4 : decide ((⟨x6, xh, xl⟩ : Adr) = ⟨v6, hi, lo⟩ ∧ xb = bi) = B := by rw [Bool.decide_and, hE, hep, hBB]
      rw [hd4] at hTi hno2
      clear hd4
      replace hTi := hide hTi
      replace hno2 := hide hno2
      replace hBr := hide hBr
      go_upto_region 7 with fail
      apply wp_region_lit
      iterate 2 (refine wpList_plain rfl fun K hK => ?_; go_simp; refine hK _ _ ?_; clear hK K)
      refine wpl_new rfl rfl 74 _ (alloc_vw _ rfl) 8 rfl (.tmp 29) rfl _ (fun _ => rfl) (fun _ => rfl) rfl (by kernel_rfl) (vw_one x6 (xh : Int) (xl : Int) xb xv) ?_
      intro w4 hg4 hb4 hz4
      refine wpList_nil ?_
      go_simp
      have hB4 := hBr.out.trans (hb4.mono hzr)
      have hg14 := blk_below hB4 (by omega) hg2.out
      have d0 := blk_cell hg4 0
      have d1 := blk_cell hg4 1
      have d2 := blk_cell hg4 2
      have d3 := blk_cell hg4 3
      have e0 := blk_cell hg14 0
      have e1 := blk_cell hg14 1
      have e2 := blk_cell hg14 2
      have e3 := blk_cell hg14 3
      clear y0 y1 y2 y3 y4 hb4 hg4 hg14 hBr
      replace hB4 := hide hB4
      go_upto_region 8 with fail
      go_cut [34] (fun bv wx => bv = .bool B ∧ w4 = wx)
      case first =>
        clear hTi hno2 hX3 hT1 hT2
        cases E
        · obtain rfl : false = B := hBB
          have hz0 := of_decide_eq_false hE
          clear hE
          by_cases h6 : x6 = v6
          · subst h6
            by_cases hh : xh = hi
            · subst hh
              have hl0 : ¬ (xl : Int) = (lo : Int) := fun h => hz0 (by rw [show xl = lo by omega])
              clear hz0
              go_wp2_with fail
              go_meet
              exact ⟨rfl, rfl⟩
            · have hh0 : ¬ (xh : Int) = (hi : Int) := by omega
              clear hz0
              go_wp2_with fail
              go_meet
              exact ⟨rfl, rfl⟩
          · clear hz0
            go_wp2_with fail
            go_meet
            exact ⟨rfl, rfl⟩
        · have hz0 := of_decide_eq_true hE
          obtain ⟨rfl, rfl, rfl⟩ : x6 = v6 ∧ xh = hi ∧ xl = lo := by cases hz0; exact ⟨rfl, rfl, rfl⟩
          obtain rfl : ep = B := hBB
          clear hE hz0
          cases ep
          · have hne := of_decide_eq_false hep
            clear hep
            go_wp2_with fail
            go_meet
            exact ⟨rfl, rfl⟩
          · obtain rfl := of_decide_eq_true hep
            clear hep
            go_wp2_with fail
            go_meet
            exact ⟨rfl, rfl⟩
      case rest =>
      obtain ⟨rfl, rfl⟩ := hcut
      clear hE hBB hep d0 d1 d2 d3 e0 e1 e2 e3
      cases B
      · have hno3 := hno2.out rfl
        clear hTi hno2
        replace hno3 := hide hno3
        go_wp2_with fail
        exact ⟨⟨i + 1, by omega, by first | rfl | go_num, hno3.out, hB4.out⟩, by simp only [intOf]; omega⟩
      · obtain rfl := hTi.out rfl
        obtain rfl : 8 = X := hX3.out
        clear hTi hno2
        go_wp2_with fail
        go_ret
        exact ⟨rfl, hB.out.trans (hB4.out.mono hB.out.size)⟩
    · obtain rfl : i = n := by omega
      have hlt : ((i : Int) < (i : Int)) = False := by simp
      have hTn := hT2.out (fun j x hd => by
        by_cases hj : j < i
        · exact hno j x hj hd
        · have h5 := (List.getElem?_eq_some_iff.1 hd).1
          omega)
      subst hTn
      obtain rfl : 0 = X := hX3.out
      clear hno
      replace hBr := hide hBr
      go_wp2_with fail
      go_ret
      exact ⟨rfl, hB.out.trans (hBr.out.mono hB.out.size)⟩
end Val19
end Go.Proofs.YtcpokkkdmenmgaaGreatDoor
/- The walk of ConfParses: it answers true. Condition: the cell of bytealg.MaxLen. -/
namespace Go.Proofs.YtcpokkkdmenmgaaGreatDoor
open Go.RowKit Go.ChangeShapes Go.WideShapes Go.ChangeAt Go.Deep
namespace Conf18
open Addr05
/-- What a reader comes to, as values that were there. -/
def ReadEnd (s : List UInt8) (w w' : World) (e : Ending) : Prop :=
  Below w.heap.size w w' ∧ ∃ (c : Cfg) (no : Nat) (en : Int) (A1 A2 A3 : Option Addr) (k1 k2 k3 : Nat), (match confF s with | .error p => (zeroC, p.1, p.2) | .ok c => (c, 0, 0)) = (c, no, en) ∧ c.small 4096 ∧
    e = .returned (.tuple #[.agg (cfC c (.slice A1 c.nodes.length k1) (.slice A2 c.vips.length k2) (.slice A3 c.views.length k3)), .int .i64 (no : Int), .int .i64 en]) ∧ CfgR w' w'.heap.size c A1 A2 A3 k1 k2 k3
theorem readEnd_of {s : List UInt8} {w w' : World} {e : Ending} (h : ParseEnd s w w' e) : ReadEnd s w w' e := by
  obtain ⟨hb, ⟨p, hp, he⟩ | ⟨c, v, hp, he, hv, hs⟩⟩ := h
  · obtain ⟨A1, A2, A3, k1, k2, k3, e1, hR⟩ := (CfgV.zero w' w'.heap.size).open
    rw [e1] at he
    exact ⟨hb, zeroC, p.1, p.2, A1, A2, A3, k1, k2, k3, by rw [hp], ⟨Nat.zero_le _, Nat.zero_le _, Nat.zero_le _⟩, he, hR⟩
  · obtain ⟨A1, A2, A3, k1, k2, k3, e1, hR⟩ := hv.open
    rw [e1] at he
    exact ⟨hb, c, 0, 0, A1, A2, A3, k1, k2, k3, by rw [hp], hs, he, hR⟩
end Conf18
end Go.Proofs.YtcpokkkdmenmgaaGreatDoor
