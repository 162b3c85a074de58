/- conf, plain: the rows of a configuration that may be make it again. No condition. -/
import Derived.Test.YtcpokkkdmenmgaaDoorQConfRemarks11
import Derived.Test.YtcpokkkdmenmgaaDoorQConfRemarks10
import Derived.Test.YtcpokkkdmenmgaaDoorQConfRemarks7
import Derived.Test.YtcpokkkdmenmgaaDoorQConfRemarks3
import Derived.Test.YtcpokkkdmenmgaaDoorQConfRemarks8
import Derived.Test.YtcpokkkdmenmgaaDoorQConfRemarks4
import Derived.Test.YtcpokkkdmenmgaaDoorQConfRemarks2
namespace Go.Proofs.YtcpokkkdmenmgaaDoor
open Go.RowKit Go.ChangeShapes Go.WideShapes Go.ChangeAt Go.Deep
namespace Conf18
open Addr05
open Tree16 (rightF badF treeE treeF nameF clash topF hostsF rightA)
theorem tree_iff (l : List Nd) : ∀ i, treeE l i = none → ∀ (j : Nat) (n : Nd), j < i → l[j]? = some n → badF n (l.take j) = 0
  | 0, _, j, n, hj, _ => absurd hj (by omega)
  | i + 1, h, j, n, hj, hn => by
    have ih := tree_iff l i
    rw [treeE] at h
    rcases e : treeE l i with _ | p
    · rw [e] at h
      by_cases hji : j = i
      · subst hji
        rw [hn] at h
        dsimp only at h
        by_cases hb : badF n (l.take j) = 0
        · exact hb
        · rw [if_pos hb] at h
          cases h
      · exact ih e j n (by omega) hn
    · rw [e] at h
      cases h
theorem tree_right {l : List Nd} (h : treeF l = none) {j : Nat} {n : Nd} (hn : l[j]? = some n) : rightF n (l.take j) = 0 := by
  have hb := tree_iff l l.length h j n (List.getElem?_eq_some_iff.1 hn).1 hn
  unfold badF at hb
  by_cases h1 : rightF n (l.take j) = 0
  · exact h1
  · rw [if_pos h1] at hb
    exact absurd hb h1
theorem right_all {n : Nd} {l : List Nd} (h : rightF n l = 0) : ¬(nameF n.name = false ∨ n.kind < 1 ∨ 4 < n.kind) ∧ ¬(n.weight < 0 ∨ 65535 < n.weight ∨ (n.kind = 1 ∧ n.weight ≠ 0)) ∧ ¬((n.kind = 1 ∧ n.above ≠ -1) ∨ (1 < n.kind ∧ (n.above < 0 ∨ (l.length : Int) ≤ n.above))) ∧ ¬(rightA n.a = false ∨ (n.kind ≠ 4 ∧ n.a ≠ zA)) ∧ ¬(l.any (clash n)) = true := by
  unfold rightF at h
  repeat' split at h
  all_goals first | (cases h; done) | skip
  rename_i a1 a2 a3 a4 a5 a6
  exact ⟨a1, a2, a3, a5, a6⟩
theorem tree_names {l : List Nd} (h : treeF l = none) {i j : Nat} {n m : Nd} (hn : l[i]? = some n) (hm : l[j]? = some m) (hij : i < j) : n.name ≠ m.name := by
  intro he
  apply (right_all (tree_right h hm)).2.2.2.2
  rw [List.any_eq_true]
  refine ⟨n, List.mem_of_getElem? (i := i) (by rw [List.getElem?_take, if_pos hij]; exact hn), ?_⟩
  unfold clash
  exact decide_eq_true (.inl he)
theorem atN_hit {ns : List Nd} (h : treeF ns = none) {i j : Nat} {m : Nd} (hj : j < i) (hm : ns[j]? = some m) (hi : i ≤ ns.length) : atN (ns.take i) m.name = some j := by
  have hl : (ns.take i).length = i := by rw [List.length_take]; omega
  have hg : ∀ (k : Nat) (hk : k < (ns.take i).length), ns[k]? = some ((ns.take i)[k]'hk) := fun k hk => by
    rw [List.getElem_take]
    exact List.getElem?_eq_getElem (by omega)
  unfold atN
  rw [List.findIdx?_eq_some_iff_getElem]
  refine ⟨by omega, ?_, fun k hk => ?_⟩
  · have := hg j (by omega)
    rw [hm] at this
    rw [← Option.some.inj this]
    exact decide_eq_true rfl
  · have h2 := hg k (by omega)
    have := tree_names h h2 hm hk
    simpa using this
theorem atN_miss {ns : List Nd} (h : treeF ns = none) {i : Nat} {n : Nd} (hn : ns[i]? = some n) : atN (ns.take i) n.name = none := by
  unfold atN
  rw [List.findIdx?_eq_none_iff]
  intro x hx
  obtain ⟨j, hj⟩ := List.mem_iff_getElem?.1 hx
  rw [List.getElem?_take] at hj
  split at hj
  · rename_i hji
    simpa using tree_names h hj hn hji
  · cases hj
def kindW (k : Int) : List UInt8 := if k = 1 then wLevel else if k = 2 then wZone else if k = 3 then wRack else if k = 4 then wHost else []
def dgF (n : Int) : List UInt8 := digL 10 n.toNat
def nodeR (ns : List Nd) (n : Nd) : List (List UInt8) :=
  [kindW n.kind, n.name] ++ (if 1 < n.kind then [(ns.getD n.above.toNat n).name] else []) ++ (if n.kind = 4 ∨ 0 < n.weight then [dgF n.weight] else []) ++ (if n.kind = 4 then [textA n.a] else [])
def vipR (v : Vp) : List (List UInt8) := [wVip, textA v.a, if v.proto = 17 then wUdp else wTcp, dgF v.port] ++ (if 1 < v.copies then [wCopies, dgF v.copies] else []) ++ (if v.nat = true then [wNat] else [])
def viewR (v : Vw) : List (List UInt8) := [wView, textP v.a v.bits.toNat, dgF v.level]
def selfR (a : Adr) : List (List (List UInt8)) := if a = zA then [] else [[wSelf, textA a]]
def headR (c : Cfg) : List (List (List UInt8)) := [[wFactor, dgF c.factor], [wDomain, kindW c.domain]] ++ selfR c.s0 ++ selfR c.s1
def rowsF (c : Cfg) : List (List (List UInt8)) := headR c ++ c.nodes.map (nodeR c.nodes) ++ c.vips.map vipR ++ c.views.map viewR
structure mayP (c : Cfg) : Prop where
  tree : treeF c.nodes = none
  factor : 100 ≤ c.factor ∧ c.factor ≤ 1000
  dom : c.domain = 2 ∨ c.domain = 3
  s0 : c.s0.v6 = false ∧ c.s0.right
  s1 : c.s1 = zA ∨ c.s1.v6 = true
  vips : ∀ v ∈ c.vips, v.a.right ∧ (v.proto = 6 ∨ v.proto = 17) ∧ 0 ≤ v.port ∧ v.port ≤ 65535 ∧ 1 ≤ v.copies ∧ v.copies ≤ 8
  views : ∀ v ∈ c.views, (0 ≤ v.bits ∧ v.a.rightP v.bits.toNat = true) ∧ 0 ≤ v.level ∧ v.level ≤ 3
theorem lex_dg (n : Int) (h0 : 0 ≤ n) (h1 : n < 100000) (m : Int) (hm : n ≤ m) : lexF (dgF n) m = some n.toNat := lex_dig n.toNat (by omega) m (by omega)
theorem line_factor (c : Cfg) (f : Int) (h1 : 100 ≤ f) (h2 : f ≤ 1000) (h : c.fs = false) : lineF c [wFactor, dgF f] = .ok { c with factor := f, fs := true } := by
  unfold lineF
  rw [if_pos (show wd [wFactor, dgF f] 0 = wFactor from rfl)]
  unfold factorF
  rw [if_neg (by simp), show wd [wFactor, dgF f] 1 = dgF f from rfl, lex_dg f (by omega) (by omega) 1000 (by omega)]
  dsimp only
  rw [if_neg (by omega), if_neg (by rw [h]; decide), Int.toNat_of_nonneg (by omega)]
theorem line_domain (c : Cfg) (d : Int) (hd : d = 2 ∨ d = 3) (h : c.ds = false) : lineF c [wDomain, kindW d] = .ok { c with domain := d, ds := true } := by
  unfold lineF
  rw [if_neg (show ¬ wd [wDomain, kindW d] 0 = wFactor from (by decide : ¬ wDomain = wFactor)), if_pos (show wd [wDomain, kindW d] 0 = wDomain from rfl)]
  unfold domainF
  rcases hd with rfl | rfl
  · rw [if_neg (by decide), if_neg (by rw [h]; decide)]
    rfl
  · rw [if_neg (by decide), if_neg (by rw [h]; decide)]
    rfl
theorem isZ_false {a : Adr} (h : a ≠ zA) : Adr.isZ a = false := by
  rw [decide_eq_false_iff_not]
  rintro ⟨h1, h2, h3⟩
  apply h
  obtain ⟨x, y, z⟩ := a
  cases h1; cases h2; cases h3
  rfl
theorem line_self (c : Cfg) (a : Adr) (ho : a.ok) (hr : a.right) (hz : a ≠ zA) (h : (if a.v6 = true then c.s1 else c.s0) = zA) : lineF c [wSelf, textA a] = .ok (if a.v6 = true then { c with s1 := a } else { c with s0 := a }) := by
  unfold lineF
  rw [if_neg (show ¬ wd [wSelf, textA a] 0 = wFactor from (by decide : ¬ wSelf = wFactor)), if_neg (show ¬ wd [wSelf, textA a] 0 = wDomain from (by decide : ¬ wSelf = wDomain)), if_pos (show wd [wSelf, textA a] 0 = wSelf from rfl)]
  unfold selfF
  rw [if_neg (by simp), show wd [wSelf, textA a] 1 = textA a from rfl, parse_text a hr ho]
  dsimp only
  rw [h, if_neg (by decide), if_neg (by rw [isZ_false hz]; decide)]
def hdC (c : Cfg) : Cfg := ⟨[], [], [], c.factor, c.domain, c.s0, c.s1, true, true⟩
theorem run_one {c c' : Cfg} {x : List (List UInt8)} (h : lineF c x = .ok c') : runF c [x] = some c' := by
  rw [runF, h]
  rfl
theorem run_cons {c c' : Cfg} {x : List (List UInt8)} {l : List (List (List UInt8))} (h : lineF c x = .ok c') : runF c (x :: l) = runF c' l := by
  rw [runF, h]
theorem run_head {c : Cfg} (h : mayP c) (h0 : c.s0.ok) (h1 : c.s1.ok) : runF startC (headR c) = some (hdC c) := by
  unfold headR
  rw [List.append_assoc, List.cons_append, run_cons (line_factor startC c.factor h.factor.1 h.factor.2 rfl), List.cons_append, run_cons (line_domain _ c.domain h.dom rfl), List.nil_append, runF_app]
  have e0 : runF { startC with factor := c.factor, fs := true, domain := c.domain, ds := true } (selfR c.s0) = some { startC with factor := c.factor, fs := true, domain := c.domain, ds := true, s0 := c.s0 } := by
    unfold selfR
    by_cases hz : c.s0 = zA
    · rw [if_pos hz, hz]
      rfl
    · rw [if_neg hz, run_one (line_self _ _ h0 h.s0.2 hz (by rw [h.s0.1]; rfl)), h.s0.1]
      rfl
  have e1 : runF { startC with factor := c.factor, fs := true, domain := c.domain, ds := true, s0 := c.s0 } (selfR c.s1) = some (hdC c) := by
    unfold selfR
    by_cases hz : c.s1 = zA
    · rw [if_pos hz]
      unfold hdC
      rw [hz]
      rfl
    · have h6 : c.s1.v6 = true := h.s1.resolve_left hz
      rw [if_neg hz, run_one (line_self _ _ h1 (.inl h6) hz (by rw [h6]; rfl)), h6]
      rfl
  rw [show ({ ({ startC with factor := c.factor, fs := true } : Cfg) with domain := c.domain, ds := true } : Cfg) = { startC with factor := c.factor, fs := true, domain := c.domain, ds := true } from rfl, e0]
  exact e1
theorem nodeF_ok {k : Nat} {c : Cfg} {ws : List (List UInt8)} {u : Int} {v : Nat} {a : Adr} (h1 : leastF k ≤ ws.length ∧ ws.length ≤ mostF k) (h2 : aboveF c ws = some u) (h3 : weightF k ws = some v) (h4 : nadrF ws = some a) (h5 : atN c.nodes (wd ws 1) = none) :
    nodeF k c ws = .ok { c with nodes := c.nodes ++ [⟨wd ws 1, (k : Int), u, (v : Int), a⟩] } := by
  unfold nodeF
  rw [if_neg (by omega), h2]
  dsimp only
  rw [h3]
  dsimp only
  rw [h4]
  dsimp only
  rw [h5, if_neg (by decide)]
theorem lineF_node (c : Cfg) (x : List UInt8) (r : List (List UInt8)) (k : Nat) (h : x = wLevel ∧ k = 1 ∨ x = wZone ∧ k = 2 ∨ x = wRack ∧ k = 3 ∨ x = wHost ∧ k = 4) : lineF c (x :: r) = nodeF k c (x :: r) := by
  have e : wd (x :: r) 0 = x := rfl
  unfold lineF
  rw [e]
  rcases h with ⟨rfl, rfl⟩ | ⟨rfl, rfl⟩ | ⟨rfl, rfl⟩ | ⟨rfl, rfl⟩
  all_goals rw [if_neg (by decide), if_neg (by decide), if_neg (by decide), if_neg (by decide), if_neg (by decide), if_pos (by decide)]
  all_goals rfl
theorem wgt_dg (k : Nat) (ws : List (List UInt8)) (n : Int) (hl : 3 < ws.length) (he : wd ws 3 = dgF n) (h0 : 0 ≤ n) (h1 : n ≤ 65535) (hk : 0 < n ∨ k = 4) : weightF k ws = some n.toNat := by
  unfold weightF
  rw [if_neg (by omega), he, lex_dg n h0 (by omega) 65535 h1]
  dsimp only
  rw [if_neg (by omega)]
theorem line_node {c : Cfg} {ns : List Nd} {i : Nat} {n : Nd} (hn : ns[i]? = some n) (hc : c.nodes = ns.take i) (ht : treeF ns = none) (ho : n.a.ok) : lineF c (nodeR ns n) = .ok { c with nodes := ns.take (i + 1) } := by
  have hi := (List.getElem?_eq_some_iff.1 hn).1
  have hli : (ns.take i).length = i := by rw [List.length_take]; omega
  obtain ⟨p1, p2, p3, p4, -⟩ := right_all (tree_right ht hn)
  have hmiss := atN_miss ht hn
  have e9 : ns.take (i + 1) = ns.take i ++ [n] := by rw [List.take_add_one, hn]; rfl
  rw [hli] at p3
  rw [e9]
  have hup : 1 < n.kind → aboveF c [[], [], (ns.getD n.above.toNat n).name] = some n.above := by
    intro hk
    obtain ⟨j, hj⟩ : ∃ j : Nat, n.above = (j : Int) := ⟨n.above.toNat, by omega⟩
    have hji : j < i := by omega
    have hm : ns[j]? = some ns[j] := List.getElem?_eq_getElem (by omega)
    have e : ns.getD n.above.toNat n = ns[j] := by
      rw [hj, Int.toNat_natCast, List.getD_eq_getElem?_getD, hm]
      rfl
    unfold aboveF
    rw [if_neg (by simp), e]
    have h : atN c.nodes (wd [[], [], (ns[j]).name] 2) = some j := by
      rw [hc]
      exact atN_hit ht hji hm (by omega)
    rw [h, hj]
    rfl
  have hup2 : ∀ ws : List (List UInt8), 2 < ws.length → wd ws 2 = (ns.getD n.above.toNat n).name → 1 < n.kind → aboveF c ws = some n.above := by
    intro ws h1 h2 h3
    have := hup h3
    unfold aboveF at this ⊢
    rw [if_neg (by simp)] at this
    rw [if_neg (by omega), h2]
    exact this
  obtain ⟨nm, kd, ab, wt, a⟩ := n
  dsimp only at p1 p2 p3 p4 hmiss hup2 ho ⊢
  clear hup
  have hk : kd = 1 ∨ kd = 2 ∨ kd = 3 ∨ kd = 4 := by omega
  have ha : kd ≠ 4 → a = zA := fun h => Decidable.byContradiction fun h2 => p4 (.inr ⟨h, h2⟩)
  rcases hk with rfl | rfl | rfl | rfl
  · obtain rfl : wt = 0 := by omega
    obtain rfl : ab = -1 := by omega
    obtain rfl := ha (by decide)
    have e : nodeR ns ⟨nm, 1, -1, 0, zA⟩ = [wLevel, nm] := by simp [nodeR, kindW]
    rw [e, lineF_node c wLevel [nm] 1 (.inl ⟨rfl, rfl⟩), nodeF_ok (u := -1) (v := 0) (a := zA) ⟨by simp [leastF], by simp [mostF]⟩ (by simp [aboveF]) (by simp [weightF]) (by simp [nadrF]) (by rw [hc]; exact hmiss), hc]
    rfl
  · obtain rfl := ha (by decide)
    by_cases hw : 0 < wt
    · have e : nodeR ns ⟨nm, 2, ab, wt, zA⟩ = [wZone, nm, (ns.getD ab.toNat ⟨nm, 2, ab, wt, zA⟩).name, dgF wt] := by simp [nodeR, kindW, hw]
      rw [e, lineF_node c wZone _ 2 (.inr (.inl ⟨rfl, rfl⟩)), nodeF_ok (u := ab) (v := wt.toNat) (a := zA) ⟨by simp [leastF], by simp [mostF]⟩ (hup2 _ (by simp) rfl (by decide)) (wgt_dg 2 _ wt (by simp) rfl (by omega) (by omega) (.inl hw)) (by simp [nadrF]) (by rw [hc]; exact hmiss), hc, Int.toNat_of_nonneg (by omega)]
      rfl
    · obtain rfl : wt = 0 := by omega
      have e : nodeR ns ⟨nm, 2, ab, 0, zA⟩ = [wZone, nm, (ns.getD ab.toNat ⟨nm, 2, ab, 0, zA⟩).name] := by simp [nodeR, kindW]
      rw [e, lineF_node c wZone _ 2 (.inr (.inl ⟨rfl, rfl⟩)), nodeF_ok (u := ab) (v := 0) (a := zA) ⟨by simp [leastF], by simp [mostF]⟩ (hup2 _ (by simp) rfl (by decide)) (by simp [weightF]) (by simp [nadrF]) (by rw [hc]; exact hmiss), hc]
      rfl
  · obtain rfl := ha (by decide)
    by_cases hw : 0 < wt
    · have e : nodeR ns ⟨nm, 3, ab, wt, zA⟩ = [wRack, nm, (ns.getD ab.toNat ⟨nm, 3, ab, wt, zA⟩).name, dgF wt] := by simp [nodeR, kindW, hw]
      rw [e, lineF_node c wRack _ 3 (.inr (.inr (.inl ⟨rfl, rfl⟩))), nodeF_ok (u := ab) (v := wt.toNat) (a := zA) ⟨by simp [leastF], by simp [mostF]⟩ (hup2 _ (by simp) rfl (by decide)) (wgt_dg 3 _ wt (by simp) rfl (by omega) (by omega) (.inl hw)) (by simp [nadrF]) (by rw [hc]; exact hmiss), hc, Int.toNat_of_nonneg (by omega)]
      rfl
    · obtain rfl : wt = 0 := by omega
      have e : nodeR ns ⟨nm, 3, ab, 0, zA⟩ = [wRack, nm, (ns.getD ab.toNat ⟨nm, 3, ab, 0, zA⟩).name] := by simp [nodeR, kindW]
      rw [e, lineF_node c wRack _ 3 (.inr (.inr (.inl ⟨rfl, rfl⟩))), nodeF_ok (u := ab) (v := 0) (a := zA) ⟨by simp [leastF], by simp [mostF]⟩ (hup2 _ (by simp) rfl (by decide)) (by simp [weightF]) (by simp [nadrF]) (by rw [hc]; exact hmiss), hc]
      rfl
  · have hr : a.right := by
      have : rightA a = true := by
        rcases h : rightA a with _ | _
        · exact absurd (.inl h) p4
        · rfl
      exact of_decide_eq_true this
    have e : nodeR ns ⟨nm, 4, ab, wt, a⟩ = [wHost, nm, (ns.getD ab.toNat ⟨nm, 4, ab, wt, a⟩).name, dgF wt, textA a] := by simp [nodeR, kindW]
    have hadr : nadrF [wHost, nm, (ns.getD ab.toNat ⟨nm, 4, ab, wt, a⟩).name, dgF wt, textA a] = some a := by
      unfold nadrF
      rw [if_neg (by simp)]
      exact parse_text a hr ho
    rw [e, lineF_node c wHost _ 4 (.inr (.inr (.inr ⟨rfl, rfl⟩))), nodeF_ok (u := ab) (v := wt.toNat) (a := a) ⟨by simp [leastF], by simp [mostF]⟩ (hup2 _ (by simp) rfl (by decide)) (wgt_dg 4 _ wt (by simp) rfl (by omega) (by omega) (.inr rfl)) hadr (by rw [hc]; exact hmiss), hc, Int.toNat_of_nonneg (by omega)]
    rfl
theorem run_nodes {ns : List Nd} (ht : treeF ns = none) (ho : ∀ n ∈ ns, n.a.ok) (c : Cfg) (hc : c.nodes = []) : ∀ i, i ≤ ns.length → runF c ((ns.take i).map (nodeR ns)) = some { c with nodes := ns.take i }
  | 0, _ => by
    obtain ⟨ns', vs, ws, f, d, s0, s1, fs, ds⟩ := c
    dsimp only at hc
    subst hc
    rfl
  | i + 1, h => by
    have hn : ns[i]? = some ns[i] := List.getElem?_eq_getElem (by omega)
    rw [List.take_add_one, hn]
    simp only [Option.toList, List.map_append, List.map_cons, List.map_nil]
    rw [runF_app, run_nodes ht ho c hc i (by omega)]
    show runF { c with nodes := ns.take i } [nodeR ns ns[i]] = _
    rw [run_one (line_node (c := { c with nodes := ns.take i }) hn rfl ht (ho _ (List.mem_of_getElem? hn))), List.take_add_one, hn]
    rfl
theorem line_vip (c : Cfg) (v : Vp) (ho : v.a.ok) (h : v.a.right ∧ (v.proto = 6 ∨ v.proto = 17) ∧ 0 ≤ v.port ∧ v.port ≤ 65535 ∧ 1 ≤ v.copies ∧ v.copies ≤ 8) : lineF c (vipR v) = .ok { c with vips := c.vips ++ [v] } := by
  obtain ⟨a, pr, po, cp, nt⟩ := v
  obtain ⟨h1, h2, h3, h4, h5, h6⟩ := h
  dsimp only at h1 h2 h3 h4 h5 h6 ho
  obtain ⟨R, hR⟩ : ∃ R, (if 1 < cp then [wCopies, dgF cp] else []) ++ (if nt = true then [wNat] else []) = R := ⟨_, rfl⟩
  obtain ⟨P, hP⟩ : ∃ P, (if pr = 17 then wUdp else wTcp) = P := ⟨_, rfl⟩
  have hPr : (protoF P : Int) = pr ∧ protoF P ≠ 0 := by
    rw [← hP]
    rcases h2 with rfl | rfl
    · exact ⟨by decide, by decide⟩
    · exact ⟨by decide, by decide⟩
  have hcop : ∃ R', copF R = some (cp.toNat, R') ∧ natF R' = (nt, []) := by
    rw [← hR]
    by_cases hc : 1 < cp
    · have hlex := lex_dg cp (by omega) (by omega) 8 h6
      rw [if_pos hc]
      rcases nt with _ | _
      · refine ⟨[], ?_, by simp [natF]⟩
        rw [show (if false = true then [wNat] else []) = ([] : List (List UInt8)) from rfl, List.append_nil]
        unfold copF
        rw [if_pos ⟨by simp, rfl⟩, show wd [wCopies, dgF cp] 1 = dgF cp from rfl, hlex]
        dsimp only
        rw [if_neg (by omega)]
        rfl
      · refine ⟨[wNat], ?_, by decide⟩
        rw [show (if true = true then [wNat] else []) = ([wNat] : List (List UInt8)) from rfl]
        unfold copF
        rw [if_pos ⟨by simp, rfl⟩, show wd ([wCopies, dgF cp] ++ [wNat]) 1 = dgF cp from rfl, hlex]
        dsimp only
        rw [if_neg (by omega)]
        rfl
    · obtain rfl : cp = 1 := by omega
      rcases nt with _ | _
      · exact ⟨[], by decide, by decide⟩
      · exact ⟨[wNat], by decide, by decide⟩
  obtain ⟨R', hc1, hc2⟩ := hcop
  have e : vipR ⟨a, pr, po, cp, nt⟩ = wVip :: textA a :: P :: dgF po :: R := by
    unfold vipR
    dsimp only
    rw [hP, List.append_assoc, hR]
    rfl
  rw [e]
  unfold lineF
  rw [show wd (wVip :: textA a :: P :: dgF po :: R) 0 = wVip from rfl, if_neg (by decide), if_neg (by decide), if_neg (by decide), if_pos rfl]
  unfold vipF
  rw [if_neg (by simp), show wd (wVip :: textA a :: P :: dgF po :: R) 1 = textA a from rfl, parse_text a h1 ho]
  dsimp only
  rw [show wd (wVip :: textA a :: P :: dgF po :: R) 3 = dgF po from rfl, lex_dg po h3 (by omega) 65535 h4]
  dsimp only
  rw [show wd (wVip :: textA a :: P :: dgF po :: R) 2 = P from rfl, if_neg hPr.2, show (wVip :: textA a :: P :: dgF po :: R).drop 4 = R from rfl, hc1]
  dsimp only
  rw [hc2, if_neg (by simp), hPr.1, Int.toNat_of_nonneg h3, Int.toNat_of_nonneg (by omega)]
theorem run_vips : ∀ (l : List Vp) (c : Cfg), (∀ v ∈ l, v.a.ok ∧ v.a.right ∧ (v.proto = 6 ∨ v.proto = 17) ∧ 0 ≤ v.port ∧ v.port ≤ 65535 ∧ 1 ≤ v.copies ∧ v.copies ≤ 8) → runF c (l.map vipR) = some { c with vips := c.vips ++ l }
  | [], c, _ => by
    rw [List.append_nil]
    rfl
  | v :: l, c, h => by
    obtain ⟨h1, h2⟩ := h v List.mem_cons_self
    rw [List.map_cons, run_cons (line_vip c v h1 h2), run_vips l _ fun x hx => h x (List.mem_cons_of_mem _ hx)]
    dsimp only
    rw [List.append_assoc]
    rfl
theorem line_view (c : Cfg) (v : Vw) (ho : v.a.ok) (h : (0 ≤ v.bits ∧ v.a.rightP v.bits.toNat = true) ∧ 0 ≤ v.level ∧ v.level ≤ 3) : lineF c (viewR v) = .ok { c with views := c.views ++ [v] } := by
  obtain ⟨a, b, l⟩ := v
  obtain ⟨⟨h1, h2⟩, h3, h4⟩ := h
  dsimp only at h1 h2 h3 h4 ho
  have e : viewR ⟨a, b, l⟩ = [wView, textP a b.toNat, dgF l] := rfl
  rw [e]
  unfold lineF
  rw [show wd [wView, textP a b.toNat, dgF l] 0 = wView from rfl, if_neg (by decide), if_neg (by decide), if_neg (by decide), if_neg (by decide), if_pos rfl]
  unfold viewF
  rw [if_neg (by simp), show wd [wView, textP a b.toNat, dgF l] 1 = textP a b.toNat from rfl, pfx_text a b.toNat ho h2]
  dsimp only
  rw [show wd [wView, textP a b.toNat, dgF l] 2 = dgF l from rfl, lex_dg l h3 (by omega) 3 h4]
  dsimp only
  rw [Int.toNat_of_nonneg h1, Int.toNat_of_nonneg h3]
theorem run_views : ∀ (l : List Vw) (c : Cfg), (∀ v ∈ l, v.a.ok ∧ (0 ≤ v.bits ∧ v.a.rightP v.bits.toNat = true) ∧ 0 ≤ v.level ∧ v.level ≤ 3) → runF c (l.map viewR) = some { c with views := c.views ++ l }
  | [], c, _ => by
    rw [List.append_nil]
    rfl
  | v :: l, c, h => by
    obtain ⟨h1, h2⟩ := h v List.mem_cons_self
    rw [List.map_cons, run_cons (line_view c v h1 h2), run_views l _ fun x hx => h x (List.mem_cons_of_mem _ hx)]
    dsimp only
    rw [List.append_assoc]
    rfl
theorem run_rows {c : Cfg} {M : Nat} (h : mayP c) (hg : c.good M) : runF startC (rowsF c) = some { c with fs := true, ds := true } := by
  have hn := run_nodes h.tree (fun n hn => (hg.nodes n hn).1) (hdC c) rfl c.nodes.length (Nat.le_refl _)
  rw [List.take_length] at hn
  unfold rowsF
  rw [runF_app, runF_app, runF_app, run_head h hg.s0 hg.s1]
  show ((((runF (hdC c) _).bind _).bind _)) = _
  rw [hn]
  show ((runF { hdC c with nodes := c.nodes } (c.vips.map vipR)).bind _) = _
  rw [run_vips c.vips _ fun v hv => ⟨hg.vips v hv, h.vips v hv⟩]
  show runF { hdC c with nodes := c.nodes, vips := [] ++ c.vips } (c.views.map viewR) = _
  rw [run_views c.views _ fun v hv => ⟨hg.views v hv, h.views v hv⟩]
  rfl
theorem digL_ok (b n : Nat) (hb : b = 10 ∨ b = 16) : okW (digL b n) = true := by
  refine okW_mk (digL_ne b n) fun c hc => ?_
  obtain ⟨d, hd, e⟩ := digF_mem b (by omega) _ _ _ hc
  have : ∀ d, d < 16 → okC (hexC d) = true := by decide
  rw [e]
  exact this d (by omega)
theorem textA_ok (a : Adr) (ho : a.ok) (hr : a.right) : okW (textA a) = true := by
  refine okW_mk ?_ fun c hc => ?_
  · intro e
    have := parse_text a hr ho
    rw [e] at this
    revert this
    have : parseF [] = none := by kernel_rfl
    rw [this]
    intro h
    cases h
  · rcases hk : okC c with _ | _
    · exfalso
      have hd : ∀ b n, b = 10 ∨ b = 16 → c ∉ digL b n := fun b n hb h => by
        rw [okW_all (digL_ok b n hb) c h] at hk
        cases hk
      have h46 : c ≠ 46 := by rintro rfl; revert hk; decide
      have h58 : c ≠ 58 := by rintro rfl; revert hk; decide
      revert hc
      unfold textA textL
      split
      · have h6 : ∀ ws : List Nat, ∀ x ∈ d6 ws, c ∉ x := by
          intro ws x hx
          obtain ⟨n, _, rfl⟩ := List.mem_map.1 hx
          exact hd 16 n (.inr rfl)
        unfold text6
        split
        · exact join_no c 58 h58 _ (h6 _)
        · rw [List.mem_append, List.mem_append]
          rintro ((h | h) | h)
          · exact join_no c 58 h58 _ (fun x hx => h6 _ x (List.mem_of_mem_take hx)) h
          · simp at h
            exact h58 h
          · exact join_no c 58 h58 _ (fun x hx => h6 _ x (List.mem_of_mem_drop hx)) h
      · have h4 : ∀ lo k, ∀ x ∈ d4 lo k, c ∉ x := by
          intro lo k
          induction k with
          | zero => intro x hx; cases hx
          | succ k ih =>
            intro x hx
            rw [d4] at hx
            rcases List.mem_cons.1 hx with rfl | hx
            · exact hd 10 _ (.inl rfl)
            · exact ih x hx
        exact join_no c 46 h46 _ (h4 _ _)
    · rfl
theorem name_ok {s : List UInt8} (h : nameF s = true) : okW s = true := by
  unfold nameF at h
  rw [Bool.and_eq_true, List.all_eq_true] at h
  refine okW_mk ?_ fun c hc => ?_
  · rintro rfl
    have := of_decide_eq_true h.1
    simp at this
  · have := of_decide_eq_true (h.2 c hc)
    unfold Tree16.nameC at this
    exact decide_eq_true (by omega)
/-- All words of a configuration that may be are words. -/
theorem rows_ok {c : Cfg} {M : Nat} (h : mayP c) (hg : c.good M) : ∀ row ∈ rowsF c, row ≠ [] ∧ ∀ y ∈ row, okW y = true := by
  have hself : ∀ a : Adr, a.ok → a.right → ∀ row ∈ selfR a, row ≠ [] ∧ ∀ y ∈ row, okW y = true := by
    intro a ho hr row hrow
    unfold selfR at hrow
    split at hrow
    · cases hrow
    · rw [List.mem_singleton] at hrow
      subst hrow
      refine ⟨by simp, fun y hy => ?_⟩
      simp only [List.mem_cons, List.not_mem_nil, or_false] at hy
      rcases hy with rfl | rfl
      · decide
      · exact textA_ok a ho hr
  have hnames : ∀ (j : Nat) (n : Nd), c.nodes[j]? = some n → nameF n.name = true ∧ 1 ≤ n.kind ∧ n.kind ≤ 4 ∧ (1 < n.kind → 0 ≤ n.above ∧ n.above < (j : Int)) ∧ n.a.right := by
    intro j n hn
    obtain ⟨p1, p2, p3, p4, -⟩ := right_all (tree_right h.tree hn)
    have hj := (List.getElem?_eq_some_iff.1 hn).1
    have hli : (c.nodes.take j).length = j := by rw [List.length_take]; omega
    rw [hli] at p3
    refine ⟨?_, by omega, by omega, fun hk => by omega, ?_⟩
    · rcases e : nameF n.name with _ | _
      · exact absurd (.inl e) p1
      · rfl
    · have : rightA n.a = true := by
        rcases e : rightA n.a with _ | _
        · exact absurd (.inl e) p4
        · rfl
      exact of_decide_eq_true this
  intro row hrow
  unfold rowsF headR at hrow
  simp only [List.mem_append] at hrow
  rcases hrow with ((((hrow | hrow) | hrow) | hrow) | hrow) | hrow
  · simp only [List.mem_cons, List.not_mem_nil, or_false] at hrow
    rcases hrow with rfl | rfl
    · refine ⟨by simp, fun y hy => ?_⟩
      simp only [List.mem_cons, List.not_mem_nil, or_false] at hy
      rcases hy with rfl | rfl
      · decide
      · exact digL_ok _ _ (.inl rfl)
    · refine ⟨by simp, fun y hy => ?_⟩
      simp only [List.mem_cons, List.not_mem_nil, or_false] at hy
      rcases hy with rfl | rfl
      · decide
      · rcases h.dom with e | e <;> rw [e] <;> decide
  · exact hself _ hg.s0 h.s0.2 row hrow
  · refine hself _ hg.s1 ?_ row hrow
    rcases h.s1 with e | e
    · rw [e]
      exact .inr ⟨rfl, by decide⟩
    · exact .inl e
  · obtain ⟨n, hn, rfl⟩ := List.mem_map.1 hrow
    obtain ⟨j, hj⟩ := List.mem_iff_getElem?.1 hn
    obtain ⟨q1, q2, q3, q4, q5⟩ := hnames j n hj
    have hjl := (List.getElem?_eq_some_iff.1 hj).1
    unfold nodeR
    refine ⟨by simp, fun y hy => ?_⟩
    simp only [List.mem_append, List.mem_cons, List.not_mem_nil, or_false] at hy
    rcases hy with (((rfl | rfl) | hy) | hy) | hy
    · have : n.kind = 1 ∨ n.kind = 2 ∨ n.kind = 3 ∨ n.kind = 4 := by omega
      rcases this with e | e | e | e <;> rw [e] <;> decide
    · exact name_ok q1
    · split at hy
      · rename_i hk
        rw [List.mem_singleton] at hy
        subst hy
        obtain ⟨q6, q7⟩ := q4 hk
        have hm : c.nodes[n.above.toNat]? = some c.nodes[n.above.toNat] := List.getElem?_eq_getElem (by omega)
        rw [List.getD_eq_getElem?_getD, hm]
        exact name_ok (hnames _ _ hm).1
      · cases hy
    · split at hy
      · rw [List.mem_singleton] at hy
        subst hy
        exact digL_ok _ _ (.inl rfl)
      · cases hy
    · split at hy
      · rw [List.mem_singleton] at hy
        subst hy
        exact textA_ok _ (hg.nodes n hn).1 q5
      · cases hy
  · obtain ⟨v, hv, rfl⟩ := List.mem_map.1 hrow
    have hv2 := h.vips v hv
    unfold vipR
    refine ⟨by simp, fun y hy => ?_⟩
    simp only [List.mem_append, List.mem_cons, List.not_mem_nil, or_false] at hy
    rcases hy with ((rfl | rfl | rfl | rfl) | hy) | hy
    · decide
    · exact textA_ok _ (hg.vips v hv) hv2.1
    · split <;> decide
    · exact digL_ok _ _ (.inl rfl)
    · split at hy
      · simp only [List.mem_cons, List.not_mem_nil, or_false] at hy
        rcases hy with rfl | rfl
        · decide
        · exact digL_ok _ _ (.inl rfl)
      · cases hy
    · split at hy
      · rw [List.mem_singleton] at hy
        subst hy
        decide
      · cases hy
  · obtain ⟨v, hv, rfl⟩ := List.mem_map.1 hrow
    have hv2 := h.views v hv
    unfold viewR
    refine ⟨by simp, fun y hy => ?_⟩
    simp only [List.mem_cons, List.not_mem_nil, or_false] at hy
    rcases hy with rfl | rfl | rfl
    · decide
    · refine okW_mk (by unfold textP; simp) fun d hd => ?_
      unfold textP at hd
      rcases List.mem_append.1 hd with hd | hd
      · exact okW_all (textA_ok _ (hg.views v hv) (rightP_w _ _ hv2.1.2).1) d hd
      · rcases List.mem_cons.1 hd with rfl | hd
        · decide
        · exact okW_all (digL_ok _ _ (.inl rfl)) d hd
    · exact digL_ok _ _ (.inl rfl)
/-- A configuration's text with blanks, empty lines and remarks is read as the configuration. -/
theorem remarks_back {c : Cfg} {M : Nat} (h : mayP c) (hg : c.good M) (hn : c.nodes.length ≤ 60) (hv : c.vips.length ≤ 20) (hw : c.views.length ≤ 20) {rem : List UInt8} (hr : okR rem) : confF (moreF rem (textR (rowsF c))) = .ok { c with fs := true, ds := true } := by
  refine conf_rows hr ?_ (rows_ok h hg) (run_rows h hg)
  have hs : ∀ a : Adr, (selfR a).length ≤ 1 := by
    intro a
    unfold selfR
    split <;> simp
  have h1 := hs c.s0
  have h2 := hs c.s1
  unfold rowsF headR
  simp only [List.length_append, List.length_map, List.length_cons, List.length_nil]
  omega
end Conf18
end Go.Proofs.YtcpokkkdmenmgaaDoor
/- conf: kind, proto. No condition. -/
namespace Go.Proofs.YtcpokkkdmenmgaaDoor
open Go.RowKit Go.ChangeShapes Go.WideShapes Go.ChangeAt Go.Deep
namespace Conf18
theorem eqw (y l : List UInt8) : ((str y).toList == l) = decide (y = l) := by
  rw [show (str y).toList = y by simp [str, ByteArray.toList_eq]]
  by_cases h : y = l
  · subst h; simp
  · rw [decide_eq_false h, beq_eq_false_iff_ne]; exact h
set_option maxRecDepth 20000 in
set_option maxHeartbeats 8000000 in
theorem proto_any (y : List UInt8) (w : World) : Calls Tryd.prog 83 #[.string (str y)] w fun e w' => e = .returned (.int .i64 (protoF y : Int)) ∧ w' = w := by
  have t1 := eqw y [116, 99, 112]
  have t2 := eqw y [117, 100, 112]
  obtain ⟨p, hp⟩ : ∃ p, protoF y = p := ⟨_, rfl⟩
  rw [hp]
  unfold protoF wTcp wUdp at hp
  by_cases h1 : y = [116, 99, 112]
  · rw [decide_eq_true h1] at t1
    rw [if_pos h1] at hp
    clear h1 t2
    subst hp
    go_enter Tryd.func83, Tryd.ntmps83
    go_wp2_with fail
    go_ret
    exact ⟨rfl, rfl⟩
  rw [decide_eq_false h1] at t1
  rw [if_neg h1] at hp
  by_cases h2 : y = [117, 100, 112]
  · rw [decide_eq_true h2] at t2
    rw [if_pos h2] at hp
    clear h1 h2
    subst hp
    go_enter Tryd.func83, Tryd.ntmps83
    go_wp2_with fail
    go_ret
    exact ⟨rfl, rfl⟩
  rw [decide_eq_false h2] at t2
  rw [if_neg h2] at hp
  clear h1 h2
  subst hp
  go_enter Tryd.func83, Tryd.ntmps83
  go_wp2_with fail
  go_ret
  exact ⟨rfl, rfl⟩
set_option maxRecDepth 20000 in
set_option maxHeartbeats 8000000 in
theorem kind_any (y : List UInt8) (w : World) : Calls Tryd.prog 81 #[.string (str y)] w fun e w' => e = .returned (.int .i64 (kindF y : Int)) ∧ w' = w := by
  have t1 := eqw y [108, 101, 118, 101, 108]
  have t2 := eqw y [122, 111, 110, 101]
  have t3 := eqw y [114, 97, 99, 107]
  have t4 := eqw y [104, 111, 115, 116]
  obtain ⟨p, hp⟩ : ∃ p, kindF y = p := ⟨_, rfl⟩
  rw [hp]
  unfold kindF wLevel wZone wRack wHost at hp
  by_cases h1 : y = [108, 101, 118, 101, 108]
  · rw [decide_eq_true h1] at t1
    rw [if_pos h1] at hp
    clear h1 t2 t3 t4
    subst hp
    go_enter Tryd.func81, Tryd.ntmps81
    go_wp2_with fail
    go_ret
    exact ⟨rfl, rfl⟩
  rw [decide_eq_false h1] at t1
  rw [if_neg h1] at hp
  by_cases h2 : y = [122, 111, 110, 101]
  · rw [decide_eq_true h2] at t2
    rw [if_pos h2] at hp
    clear h1 h2 t3 t4
    subst hp
    go_enter Tryd.func81, Tryd.ntmps81
    go_wp2_with fail
    go_ret
    exact ⟨rfl, rfl⟩
  rw [decide_eq_false h2] at t2
  rw [if_neg h2] at hp
  by_cases h3 : y = [114, 97, 99, 107]
  · rw [decide_eq_true h3] at t3
    rw [if_pos h3] at hp
    clear h1 h2 h3 t4
    subst hp
    go_enter Tryd.func81, Tryd.ntmps81
    go_wp2_with fail
    go_ret
    exact ⟨rfl, rfl⟩
  rw [decide_eq_false h3] at t3
  rw [if_neg h3] at hp
  by_cases h4 : y = [104, 111, 115, 116]
  · rw [decide_eq_true h4] at t4
    rw [if_pos h4] at hp
    clear h1 h2 h3 h4
    subst hp
    go_enter Tryd.func81, Tryd.ntmps81
    go_wp2_with fail
    go_ret
    exact ⟨rfl, rfl⟩
  rw [decide_eq_false h4] at t4
  rw [if_neg h4] at hp
  clear h1 h2 h3 h4
  subst hp
  go_enter Tryd.func81, Tryd.ntmps81
  go_wp2_with fail
  go_ret
  exact ⟨rfl, rfl⟩
end Conf18
end Go.Proofs.YtcpokkkdmenmgaaDoor
/- conf, plain: what the law's own examples are read as. No condition. -/
namespace Go.Proofs.YtcpokkkdmenmgaaDoor
open Go.RowKit Go.ChangeShapes Go.WideShapes Go.ChangeAt Go.Deep
namespace Conf18
open Addr05
/-- factor 99 -/
def exA : List UInt8 := [102, 97, 99, 116, 111, 114, 32, 57, 57]
def exB : List UInt8 := [108, 101, 118, 101, 108, 32, 97, 10, 122, 111, 110, 101, 32, 98, 32, 97, 10, 114, 97, 99, 107, 32, 99, 32, 98, 32, 55, 10, 104, 111, 115, 116, 32, 100, 32, 99, 32, 53, 32, 49, 46, 50, 46, 51, 46, 52]
theorem exA_is : (match confF exA with | .error p => decide (p.1 = 1 ∧ p.2 = 5) | .ok _ => false) = true := by kernel_rfl
theorem exB_is : (match confF exB with | .error _ => false | .ok c => decide (c.nodes.length = 4 ∧ (c.nodes.getD 3 ⟨[], 0, 0, 0, zA⟩).above = 2 ∧ c.factor = 140)) = true := by kernel_rfl
end Conf18
end Go.Proofs.YtcpokkkdmenmgaaDoor
/- tree: Name. Condition: texts of at most 2^40 bytes. -/
namespace Go.Proofs.YtcpokkkdmenmgaaDoor
open Go.RowKit Go.ChangeShapes Go.WideShapes Go.ChangeAt Go.Deep
namespace Tree16
open Addr05 (str_get size_str)
set_option maxRecDepth 20000 in
set_option maxHeartbeats 8000000 in
theorem name_any (s : List UInt8) (hs : s.length ≤ 9223372036854775807) (w : World) :
    Calls Tryd.prog 72 #[.string (str s)] w fun e w' => e = .returned (.bool (nameF s)) ∧ w' = w := by
  have hsz : (str s).size = s.length := size_str s
  obtain ⟨X, hX⟩ : ∃ X, nameF s = X := ⟨_, rfl⟩
  rw [hX]
  by_cases hlen : 1 ≤ s.length ∧ s.length ≤ 32
  · have hX1 : ∀ (k : Nat) (c : UInt8), s[k]? = some c → ¬ nameC c.toNat → X = false := by
      intro k c hk hc
      rw [← hX]
      unfold nameF
      have : (s.all fun c => decide (nameC c.toNat)) = false := by
        rw [List.all_eq_false]
        exact ⟨c, List.mem_of_getElem? hk, by simpa using hc⟩
      rw [this, Bool.and_false]
    have hX2 : (∀ (k : Nat) (c : UInt8), s[k]? = some c → nameC c.toNat) → X = true := by
      intro h
      rw [← hX]
      unfold nameF
      rw [decide_eq_true hlen, Bool.true_and, List.all_eq_true]
      intro c hc
      obtain ⟨k, hk⟩ := List.mem_iff_getElem?.1 hc
      exact decide_eq_true (h k c hk)
    have t1 : ¬ (s.length : Int) < 1 := by omega
    have t2 : ¬ (32 : Int) < (s.length : Int) := by omega
    obtain ⟨n, hn⟩ : ∃ n, s.length = n := ⟨_, rfl⟩
    rw [hn] at hsz t1 t2 hlen
    clear hX
    replace hX1 := hide hX1
    replace hX2 := hide hX2
    go_enter Tryd.func72, Tryd.ntmps72
    go_wp2_with fail
    go_loopw [2, 3, 4, 15] (fun _ _ _ iv wr => ∃ i : Nat, i ≤ n ∧ iv = .int .i64 (i : Int) ∧ (∀ (j : Nat) (c : UInt8), j < i → s[j]? = some c → nameC c.toNat) ∧ w = wr) (fun _ _ _ iv _ => n - (intOf iv).toNat)
    case atStart => exact ⟨0, by omega, rfl, fun j c hj => by omega, rfl⟩
    case round =>
      obtain ⟨i, hi, rfl, hall, rfl⟩ := hrel
      by_cases hin : i < n
      · have k1 : (i : Int) < (n : Int) := by omega
        have k2 : (0 : Int) ≤ (i : Int) := by omega
        obtain ⟨c, hc⟩ : ∃ c, s[i]? = some c := ⟨_, List.getElem?_eq_getElem (by omega)⟩
        have hks2 : i < (str s).size := by omega
        have ek := str_get s i c hc hks2
        have wk1 : IntKind.i64.wrap ((i : Int) + 1) = ((i + 1 : Nat) : Int) := by rw [wraps62 _ (by omega) (by omega)]; omega
        obtain ⟨v, hv⟩ : ∃ v, c.toNat = v := ⟨_, rfl⟩
        have hv255 : v ≤ 255 := by rw [← hv]; have := c.toNat_lt; omega
        by_cases hg : nameC v
        · have hall2 : ∀ (j : Nat) (c : UInt8), j < i + 1 → s[j]? = some c → nameC c.toNat := by
            intro j d hj hd
            by_cases hji : j = i
            · subst hji
              obtain rfl := Option.some.inj (hc.symm.trans hd)
              rw [hv]; exact hg
            · exact hall j d (by omega) hd
          clear hall hc
          unfold nameC at hg
          replace hall2 := hide hall2
          go_wp2_with fail
          all_goals first | (exfalso; omega) | exact ⟨⟨i + 1, by omega, by first | rfl | go_num, hall2.out, by first | rfl | trivial⟩, by simp only [intOf]; omega⟩ | (trace_state; sorry)
        · have hXf := hX1.out i c hc (by rw [hv]; exact hg)
          clear hall hc
          unfold nameC at hg
          replace hXf := hide hXf
          go_wp2_with fail
          all_goals first | (exfalso; omega) | (go_ret; exact ⟨by rw [hXf.out]; rfl, rfl⟩) | (trace_state; sorry)
      · obtain rfl : i = n := by omega
        have hlt : ((i : Int) < (i : Int)) = False := by simp
        have hXn := hX2.out (fun j c hd => hall j c (by have := (List.getElem?_eq_some_iff.1 hd).1; omega) hd)
        clear hall
        replace hXn := hide hXn
        go_wp2_with fail
        go_ret
        exact ⟨by rw [hXn.out]; rfl, rfl⟩
  · have hXf : X = false := by
      rw [← hX]
      unfold nameF
      rw [decide_eq_false hlen, Bool.false_and]
    clear hX
    replace hXf := hide hXf
    by_cases h1 : s.length < 1
    · have t1 : (s.length : Int) < 1 := by omega
      go_enter Tryd.func72, Tryd.ntmps72
      go_wp2_with fail
      go_ret
      exact ⟨by rw [hXf.out]; rfl, rfl⟩
    · have t1 : ¬ (s.length : Int) < 1 := by omega
      have t2 : (32 : Int) < (s.length : Int) := by omega
      go_enter Tryd.func72, Tryd.ntmps72
      go_wp2_with fail
      go_ret
      exact ⟨by rw [hXf.out]; rfl, rfl⟩
end Tree16
end Go.Proofs.YtcpokkkdmenmgaaDoor
/- pfx: the law's awake. Condition: the cell of bytealg.MaxLen. -/
namespace Go.Proofs.YtcpokkkdmenmgaaDoor
open Go.RowKit Go.ChangeShapes Go.WideShapes Go.ChangeAt Go.Deep
namespace Addr05
theorem pparse1 (w : World) (hm : MaxAt w) : Calls Tryd.prog 84 #[.string ⟨#[49, 48, 46, 48, 46, 48, 46, 48, 47, 56]⟩] w fun e w' => e = .returned (.tuple #[.agg #[.bool false, .int .u64 0, .int .u64 167772160, .int .i64 8], .int .i64 0]) ∧ Below w.heap.size w w' := by
  have h := pParse_any [49, 48, 46, 48, 46, 48, 46, 48, 47, 56] (by decide) w hm
  rw [show pfxF [49, 48, 46, 48, 46, 48, 46, 48, 47, 56] = some (⟨false, 0, 167772160⟩, 8) by kernel_rfl] at h
  exact h
theorem pparse2 (w : World) (hm : MaxAt w) : Calls Tryd.prog 84 #[.string ⟨#[49, 48, 46, 48, 46, 48, 46, 49, 47, 56]⟩] w fun e w' => e = .returned (.tuple #[.agg #[.bool false, .int .u64 0, .int .u64 0, .int .i64 0], .int .i64 18]) ∧ Below w.heap.size w w' := by
  have h := pParse_any [49, 48, 46, 48, 46, 48, 46, 49, 47, 56] (by decide) w hm
  rw [show pfxF [49, 48, 46, 48, 46, 48, 46, 49, 47, 56] = none by kernel_rfl] at h
  exact h
end Addr05
end Go.Proofs.YtcpokkkdmenmgaaDoor
/- pfx: the law's right, and has. Conditions: numbers of 64 bits. -/
namespace Go.Proofs.YtcpokkkdmenmgaaDoor
open Go.RowKit Go.ChangeShapes Go.WideShapes Go.ChangeAt Go.Deep
namespace Addr05
theorem ints_ptr {w : World} {B n : Nat} {A : Option Addr} {xs : List Int} (h : IsV w B 1 A n (xs.map (Value.int .i64))) (hn : 0 < n) : ∃ b off, A = some ⟨b, off, none⟩ ∧ b < B ∧ ∀ j x, xs[j]? = some x → w.cell? ⟨b, off + j, none⟩ = some (.int .i64 x) := by
  have hl : xs.length = n := by simpa using h.1
  obtain ⟨b, off, e, hb, hc⟩ := h.2 (by omega)
  refine ⟨b, off, e, hb, fun j x hj => ?_⟩
  obtain ⟨hj', rfl⟩ := List.getElem?_eq_some_iff.1 hj
  have := hc j (by rw [List.length_map]; exact hj')
  rw [this]
  simp
theorem rightP_bits (a : Adr) (ho : a.ok) (hr : a.right) (k : Nat) (h : k ≤ a.w) : a.rightP k = true ↔ ∀ j, k ≤ j → j < a.w → a.bit j = 0 := by
  unfold Adr.rightP
  rw [decide_eq_true_eq, ← a.mask_eq ho hr k h]
  exact ⟨fun h => h.2.2, fun h' => ⟨hr, h, h'⟩⟩
end Addr05
end Go.Proofs.YtcpokkkdmenmgaaDoor
/- pfx: Has, and the law's has. Conditions: numbers of 64 bits. -/
namespace Go.Proofs.YtcpokkkdmenmgaaDoor
open Go.RowKit Go.ChangeShapes Go.WideShapes Go.ChangeAt Go.Deep
namespace Addr05
/-- Has an address a prefix? -/
def hasP (p : Adr) (i : Int) (a : Adr) : Bool := rightP p i && (a.v6 == p.v6) && decide (a.mask (clampN a i) = p)
theorem has_no1 (p : Adr) (i : Int) (a : Adr) (h : rightP p i = false) : hasP p i a = false := by unfold hasP; rw [h]; rfl
theorem has_no2 (p : Adr) (i : Int) (a : Adr) (h : (a.v6 == p.v6) = false) : hasP p i a = false := by unfold hasP; rw [h]; simp
theorem has_is (p : Adr) (i : Int) (a : Adr) (h1 : rightP p i = true) (h2 : (a.v6 == p.v6) = true) : hasP p i a = decide (a.mask (clampN a i) = p) := by unfold hasP; rw [h1, h2]; rfl
theorem rightP_facts (p : Adr) (k : Nat) (h : rightP p (k : Int) = true) : p.right ∧ k ≤ p.w ∧ p.mask k = p := by
  rw [rightP_nat] at h
  exact rightP_w p k h
theorem has_bits (p : Adr) (k : Nat) (a : Adr) (hp : p.ok) (ha : a.ok) (har : a.right) (h1 : rightP p (k : Int) = true) (h2 : (a.v6 == p.v6) = true) : hasP p (k : Int) a = true ↔ ∀ j, j < k → p.bit j = a.bit j := by
  obtain ⟨hr, hk, hm⟩ := rightP_facts p k h1
  have h6 : a.v6 = p.v6 := by simpa using h2
  have hw : a.w = p.w := by unfold Adr.w; rw [h6]
  have e : clampN a (k : Int) = k := by unfold clampN; omega
  rw [has_is p _ a h1 h2, decide_eq_true_eq, e]
  exact a.mask_eq2 p ha har hp hr h6 k (by omega) hm
end Addr05
end Go.Proofs.YtcpokkkdmenmgaaDoor
/- pfx: the law's has. Conditions: numbers of 64 bits, an address that may be. -/
namespace Go.Proofs.YtcpokkkdmenmgaaDoor
open Go.RowKit Go.ChangeShapes Go.WideShapes Go.ChangeAt Go.Deep
namespace Addr05
end Addr05
end Go.Proofs.YtcpokkkdmenmgaaDoor
/- pfx: a trie in memory, by the paths of its nodes. No condition. -/
namespace Go.Proofs.YtcpokkkdmenmgaaDoor
open Go.RowKit Go.ChangeShapes Go.WideShapes Go.ChangeAt Go.Deep
namespace Addr05
abbrev Nodes := List Nat → Option Addr
/-- The node at place a with path p: its cells. -/
def NodeIs (w : World) (N : Nodes) (M : Keys) (p : List Nat) (a : Addr) : Prop :=
  a.spot = none ∧ ∃ cs t, w.heap[a.block]? = some (.cells cs t (0, 0)) ∧ a.off + 4 ≤ cs.size ∧
    cs[a.off]? = some (.pointer (N (p ++ [0]))) ∧ cs[a.off + 1]? = some (.pointer (N (p ++ [1]))) ∧ cs[a.off + 2]? = some (.int .i64 ((M p).getD 0)) ∧ cs[a.off + 3]? = some (.bool (M p).isSome)
/-- Is a block one of the trie's? -/
def isNode (N : Nodes) (k : Nat) : Prop := ∃ p a, N p = some a ∧ a.block = k
theorem NodeIs.on {w w' : World} {N : Nodes} {M : Keys} {p : List Nat} {a : Addr} (h : NodeIs w N M p a) (e : w'.heap[a.block]? = w.heap[a.block]?) : NodeIs w' N M p a := by
  obtain ⟨h1, cs, t, h2, h3⟩ := h
  exact ⟨h1, cs, t, e.trans h2, h3⟩
theorem NodeIs.lt {w : World} {N : Nodes} {M : Keys} {p : List Nat} {a : Addr} (h : NodeIs w N M p a) : a.block < w.heap.size := by
  obtain ⟨-, cs, t, h2, -⟩ := h
  rcases Nat.lt_or_ge a.block w.heap.size with h | h
  · exact h
  · rw [Array.getElem?_eq_none h] at h2
    cases h2
theorem NodeIs.next {w : World} {N : Nodes} {M : Keys} {p : List Nat} {a : Addr} (h : NodeIs w N M p a) {b : Nat} (hb : b < 2) : w.cell? ⟨a.block, a.off + b, none⟩ = some (.pointer (N (p ++ [b]))) := by
  obtain ⟨-, cs, t, h2, -, h4, h5, -⟩ := h
  rw [blk_cell h2]
  have : b = 0 ∨ b = 1 := by omega
  rcases this with rfl | rfl
  · exact h4
  · exact h5
theorem NodeIs.val {w : World} {N : Nodes} {M : Keys} {p : List Nat} {a : Addr} (h : NodeIs w N M p a) : w.cell? ⟨a.block, a.off + 2, none⟩ = some (.int .i64 ((M p).getD 0)) ∧ w.cell? ⟨a.block, a.off + 3, none⟩ = some (.bool (M p).isSome) := by
  obtain ⟨-, cs, t, h2, -, -, -, h6, h7⟩ := h
  rw [blk_cell h2, blk_cell h2]
  exact ⟨h6, h7⟩
theorem NodeIs.free {w : World} {N : Nodes} {M : Keys} {p : List Nat} {a : Addr} (h : NodeIs w N M p a) (o : Nat) : w.frozen? ⟨a.block, o, none⟩ = false := by
  obtain ⟨-, cs, t, h2, -⟩ := h
  rw [blk_free h2]
def addN (N : Nodes) (q : List Nat) (c : Addr) : Nodes := fun r => if r = q then some c else N r
theorem snoc_inj {p q : List Nat} {b c : Nat} (h : p ++ [b] = q ++ [c]) : p = q ∧ b = c := by
  have := List.append_inj' h rfl
  exact ⟨this.1, by simpa using this.2⟩
/-- A node's cells, where one cell of another node, or of its own, is stored. -/
theorem set_at {w : World} {k o : Nat} {u : Value} {cs : Array Value} {t : TypeId} (h : w.heap[k]? = some (.cells cs t (0, 0))) :
    ∃ w', w.setCell ⟨k, o, none⟩ u = w' ∧ w'.heap[k]? = some (.cells (cs.setIfInBounds o u) t (0, 0)) ∧ w.grownBy w' (some k) := store_cell h o u
end Addr05
end Go.Proofs.YtcpokkkdmenmgaaDoor
/- pfx: Trie: top, Put, Len. Conditions: numbers of 64 bits, at most 2^40 prefixes. -/
namespace Go.Proofs.YtcpokkkdmenmgaaDoor
open Go.RowKit Go.ChangeShapes Go.WideShapes Go.ChangeAt Go.Deep
namespace Addr05
def vbit (v6 : Bool) : Nat := if v6 then 1 else 0
theorem vbit_lt (v6 : Bool) : vbit v6 < 2 := by unfold vbit; split <;> omega
/-- The path of an address's first bits. -/
def pkey (a : Adr) (k : Nat) : List Nat := vbit a.v6 :: (List.range k).map a.bit
theorem pkey_succ (a : Adr) (k : Nat) : pkey a (k + 1) = pkey a k ++ [a.bit k] := by
  unfold pkey
  rw [List.range_succ, List.map_append]
  rfl
theorem bit_lt (a : Adr) (k : Nat) : a.bit k < 2 := by
  unfold Adr.bit
  repeat' split
  all_goals omega
end Addr05
end Go.Proofs.YtcpokkkdmenmgaaDoor
/- pfx: Trie: Find. Conditions: numbers of 64 bits. -/
namespace Go.Proofs.YtcpokkkdmenmgaaDoor
open Go.RowKit Go.ChangeShapes Go.WideShapes Go.ChangeAt Go.Deep
namespace Addr05
/-- The last value among the first so many. -/
def best (m : Nat → Option Int) : Nat → Option (Int × Nat)
  | 0 => none
  | i + 1 => match m i with
    | some v => some (v, i)
    | none => best m i
theorem best_none (m : Nat → Option Int) (i : Nat) : ∀ d, (∀ j, i ≤ j → m j = none) → best m (i + d) = best m i
  | 0, _ => rfl
  | d + 1, h => by
    rw [← Nat.add_assoc, best, h (i + d) (by omega)]
    exact best_none m i d h
def fV (r : Option (Int × Nat)) : Int := match r with | none => 0 | some p => p.1
def fN (r : Option (Int × Nat)) : Int := match r with | none => 0 | some p => (p.2 : Int)
end Addr05
end Go.Proofs.YtcpokkkdmenmgaaDoor
/- pfx: plain: what a trie finds that prefixes were put in, one by one. No condition. -/
namespace Go.Proofs.YtcpokkkdmenmgaaDoor
open Go.RowKit Go.ChangeShapes Go.WideShapes Go.ChangeAt Go.Deep
namespace Addr05
/-- A prefix and its value. -/
structure PutE where
  p : Adr
  i : Int
  v : Int
deriving DecidableEq
def PutE.key (e : PutE) : List Nat := pkey e.p e.i.toNat
def PutE.right (e : PutE) : Bool := rightP e.p e.i
def stepM (M : Keys) (e : PutE) : Keys := if e.right = true then upd M e.key e.v else M
def keysOf (l : List PutE) : Keys := l.foldl stepM (fun _ => none)
def stepR (a : Adr) (r : Option (Int × Nat)) (e : PutE) : Option (Int × Nat) :=
  if hasP e.p e.i a = true ∧ (∀ q, r = some q → (q.2 : Int) ≤ e.i) then some (e.v, e.i.toNat) else r
def pickOf (a : Adr) (l : List PutE) : Option (Int × Nat) := l.foldl (stepR a) none
theorem keysOf_snoc (l : List PutE) (k : Nat) (e : PutE) (h : l[k]? = some e) : keysOf (l.take (k + 1)) = stepM (keysOf (l.take k)) e := by
  unfold keysOf
  rw [List.take_add_one, h]
  simp
theorem pickOf_snoc (a : Adr) (l : List PutE) (k : Nat) (e : PutE) (h : l[k]? = some e) : pickOf a (l.take (k + 1)) = stepR a (pickOf a (l.take k)) e := by
  unfold pickOf
  rw [List.take_add_one, h]
  simp
def bitsN (a : Adr) (k : Nat) : List Nat := (List.range k).map a.bit
theorem bitsN_len (a : Adr) (k : Nat) : (bitsN a k).length = k := by unfold bitsN; simp
theorem bitsN_take (a : Adr) (k n : Nat) (h : k ≤ n) : (bitsN a n).take k = bitsN a k := by
  unfold bitsN
  rw [← List.map_take, List.take_range, Nat.min_eq_left h]
theorem bitsN_eq (a b : Adr) (k : Nat) : bitsN a k = bitsN b k ↔ ∀ j, j < k → a.bit j = b.bit j := by
  unfold bitsN
  constructor
  · intro h j hj
    have := congrArg (fun l => l[j]?) h
    simpa [hj] using this
  · intro h
    apply List.map_congr_left
    intro j hj
    exact h j (List.mem_range.1 hj)
theorem vbit_inj (a b : Bool) (h : vbit a = vbit b) : a = b := by
  cases a <;> cases b <;> first | rfl | (exfalso; revert h; decide)
theorem hasP_iff (e : PutE) (a : Adr) (hp : e.p.ok) (ha : a.ok) (har : a.right) (hr : e.right = true) : hasP e.p e.i a = true ↔ vbit e.p.v6 = vbit a.v6 ∧ bitsN e.p e.i.toNat = (bitsN a a.w).take e.i.toNat ∧ e.i.toNat ≤ a.w := by
  have h0 : 0 ≤ e.i := by
    rcases Int.lt_or_le e.i 0 with h | h
    · unfold PutE.right at hr; rw [right_no2 _ _ h] at hr; cases hr
    · exact h
  obtain ⟨k, hk⟩ : ∃ k : Nat, e.i = (k : Int) := ⟨e.i.toNat, by omega⟩
  unfold PutE.right at hr
  rw [hk] at hr ⊢
  rw [Int.toNat_natCast]
  have hkw := (rightP_facts e.p k hr).2.1
  by_cases h6 : a.v6 = e.p.v6
  · have hw : a.w = e.p.w := by unfold Adr.w; rw [h6]
    rw [has_bits e.p k a hp ha har hr (by simp [h6]), bitsN_take a k a.w (by omega), bitsN_eq]
    exact ⟨fun h => ⟨by rw [h6], h, by omega⟩, fun h => h.2.1⟩
  · rw [has_no2 e.p _ a (by simpa using h6)]
    constructor
    · intro h; cases h
    · rintro ⟨h, -⟩
      exact absurd (vbit_inj _ _ h).symm h6
/-- The keys of one version. -/
def sub (M : Keys) (v : Nat) : Keys := fun q => M (v :: q)
theorem find_step (a : Adr) (ha : a.ok) (har : a.right) (M : Keys) (r : Option (Int × Nat)) (h : IsFind (sub M (vbit a.v6)) (bitsN a a.w) r) (e : PutE) (hp : e.p.ok) : IsFind (sub (stepM M e) (vbit a.v6)) (bitsN a a.w) (stepR a r e) := by
  unfold stepM stepR
  by_cases hr : e.right = true
  · rw [if_pos hr]
    have h0 : 0 ≤ e.i := by
      rcases Int.lt_or_le e.i 0 with h | h
      · unfold PutE.right at hr; rw [right_no2 _ _ h] at hr; cases hr
      · exact h
    have hiff := hasP_iff e a hp ha har hr
    by_cases hv : vbit e.p.v6 = vbit a.v6
    · have e1 : sub (upd M e.key e.v) (vbit a.v6) = upd (sub M (vbit a.v6)) (bitsN e.p e.i.toNat) e.v := by
        funext q
        unfold sub upd PutE.key pkey
        rw [hv]
        show (if (vbit a.v6 :: q) = vbit a.v6 :: bitsN e.p e.i.toNat then some e.v else _) = _
        by_cases hq : q = bitsN e.p e.i.toNat
        · rw [if_pos (by rw [hq]), if_pos hq]
        · rw [if_neg (fun h => hq (List.cons.inj h).2), if_neg hq]
      rw [e1]
      have h1 := h.put (bitsN e.p e.i.toNat) e.v
      rw [bitsN_len] at h1
      have e2 : (bitsN e.p e.i.toNat = (bitsN a a.w).take e.i.toNat ∧ e.i.toNat ≤ (bitsN a a.w).length ∧ (∀ p, r = some p → p.2 ≤ e.i.toNat)) ↔ (hasP e.p e.i a = true ∧ (∀ q, r = some q → (q.2 : Int) ≤ e.i)) := by
        rw [hiff, bitsN_len]
        constructor
        · rintro ⟨h1, h2, h3⟩
          exact ⟨⟨hv, h1, h2⟩, fun q hq => by have := h3 q hq; omega⟩
        · rintro ⟨⟨-, h1, h2⟩, h3⟩
          exact ⟨h1, h2, fun q hq => by have := h3 q hq; omega⟩
      by_cases hc : hasP e.p e.i a = true ∧ (∀ q, r = some q → (q.2 : Int) ≤ e.i)
      · rw [if_pos hc]
        rwa [if_pos (e2.2 hc)] at h1
      · rw [if_neg hc]
        rwa [if_neg (fun h => hc (e2.1 h))] at h1
    · rw [if_neg (fun h => hv (hiff.1 h.1).1)]
      have e1 : sub (upd M e.key e.v) (vbit a.v6) = sub M (vbit a.v6) := by
        funext q
        unfold sub upd PutE.key pkey
        rw [if_neg (fun h => hv (List.cons.inj h).1.symm)]
      rw [e1]
      exact h
  · rw [if_neg hr, if_neg]
    · exact h
    · rintro ⟨h1, -⟩
      rw [has_no1 e.p e.i a (by unfold PutE.right at hr; simpa using hr)] at h1
      cases h1
theorem find_all (a : Adr) (ha : a.ok) (har : a.right) : ∀ (l : List PutE), (∀ e ∈ l, e.p.ok) → ∀ (M : Keys) (r : Option (Int × Nat)), IsFind (sub M (vbit a.v6)) (bitsN a a.w) r → IsFind (sub (l.foldl stepM M) (vbit a.v6)) (bitsN a a.w) (l.foldl (stepR a) r)
  | [], _, _, _, h => h
  | e :: l, hl, M, r, h => find_all a ha har l (fun x hx => hl x (List.mem_cons_of_mem _ hx)) _ _ (find_step a ha har M r h e (hl e List.mem_cons_self))
theorem best_spec (m : Nat → Option Int) : ∀ i, match best m i with
    | none => ∀ j, j < i → m j = none
    | some p => p.2 < i ∧ m p.2 = some p.1 ∧ ∀ j, p.2 < j → j < i → m j = none
  | 0 => fun j h => by omega
  | i + 1 => by
    have ih := best_spec m i
    rw [best]
    cases hm : m i with
    | some v => exact ⟨by dsimp only; omega, hm, fun j h1 h2 => by dsimp only at h1; omega⟩
    | none =>
      dsimp only
      cases hb : best m i with
      | none =>
        rw [hb] at ih
        intro j hj
        rcases Nat.lt_or_ge j i with h | h
        · exact ih j h
        · rw [show j = i by omega]; exact hm
      | some p =>
        rw [hb] at ih
        exact ⟨by omega, ih.2.1, fun j h1 h2 => by
          rcases Nat.lt_or_ge j i with h | h
          · exact ih.2.2 j h1 h
          · rw [show j = i by omega]; exact hm⟩
theorem best_find (a : Adr) (M : Keys) : IsFind (sub M (vbit a.v6)) (bitsN a a.w) (best (fun j => M (pkey a j)) (a.w + 1)) := by
  have h := best_spec (fun j => M (pkey a j)) (a.w + 1)
  have e : ∀ j, j ≤ a.w → sub M (vbit a.v6) ((bitsN a a.w).take j) = M (pkey a j) := fun j hj => by
    rw [bitsN_take a j a.w hj]
    rfl
  cases hb : best (fun j => M (pkey a j)) (a.w + 1) with
  | none =>
    rw [hb] at h
    intro j hj
    rw [bitsN_len] at hj
    rw [e j hj]
    exact h j (by omega)
  | some p =>
    rw [hb] at h
    obtain ⟨v, n⟩ := p
    obtain ⟨h1, h2, h3⟩ := h
    dsimp only at h1 h2 h3
    refine ⟨by rw [bitsN_len]; omega, by rw [e n (by omega)]; exact h2, fun j h4 h5 => ?_⟩
    rw [bitsN_len] at h5
    rw [e j h5]
    exact h3 j h4 (by omega)
/-- What Find tells is what the law picks. -/
theorem find_pick (a : Adr) (ha : a.ok) (har : a.right) (l : List PutE) (hl : ∀ e ∈ l, e.p.ok) : best (fun j => keysOf l (pkey a j)) (a.w + 1) = pickOf a l :=
  (best_find a (keysOf l)).unique (find_all a ha har l hl _ none (fun _ _ => rfl))
theorem key_inj (e d : PutE) (he : e.p.ok) (hd : d.p.ok) (hre : e.right = true) (hrd : d.right = true) (h : e.key = d.key) : e.p = d.p ∧ e.i = d.i := by
  have pos : ∀ x : PutE, x.right = true → ∃ k : Nat, x.i = (k : Int) := fun x hx => by
    rcases Int.lt_or_le x.i 0 with h | h
    · unfold PutE.right at hx; rw [right_no2 _ _ h] at hx; cases hx
    · exact ⟨x.i.toNat, by omega⟩
  obtain ⟨k, hk⟩ := pos e hre
  obtain ⟨k', hk'⟩ := pos d hrd
  unfold PutE.key at h
  rw [hk, hk', Int.toNat_natCast, Int.toNat_natCast] at h
  unfold PutE.right at hre hrd
  rw [hk] at hre
  rw [hk'] at hrd
  have hlen : k = k' := by
    have := congrArg List.length h
    unfold pkey at this
    simpa using this
  subst hlen
  obtain ⟨h1, h2⟩ := List.cons.inj h
  have h6 := vbit_inj _ _ h1
  have hb := (bitsN_eq e.p d.p k).1 h2
  obtain ⟨hr1, hw1, hm1⟩ := rightP_facts e.p k hre
  obtain ⟨hr2, hw2, hm2⟩ := rightP_facts d.p k hrd
  have h3 := (d.p.mask_eq2 e.p hd hr2 he hr1 h6.symm k hw2 hm1).2 hb
  rw [hm2] at h3
  exact ⟨h3.symm, by rw [hk, hk']⟩
theorem keys_some (l : List PutE) : ∀ (q : List Nat) (M : Keys), (l.foldl stepM M q).isSome = true ↔ (M q).isSome = true ∨ ∃ e ∈ l, e.right = true ∧ e.key = q := by
  induction l with
  | nil => intro q M; simp
  | cons e l ih =>
    intro q M
    rw [List.foldl_cons, ih]
    unfold stepM
    by_cases hr : e.right = true
    · rw [if_pos hr]
      unfold upd
      by_cases hq : q = e.key
      · rw [if_pos hq]
        simp [hr, hq]
      · rw [if_neg hq]
        simp [hr, Ne.symm hq]
    · rw [if_neg hr]
      simp [hr]
/-- Is a prefix not among the first ones? -/
def freshB (l : List PutE) (k : Nat) (e : PutE) : Bool := (l.take k).all fun d => !(decide (d.p = e.p ∧ d.i = e.i))
theorem fresh_keys (l : List PutE) (k : Nat) (e : PutE) (hl : ∀ x ∈ l, x.p.ok) (he : e.p.ok) (hr : e.right = true) : freshB l k e = !(keysOf (l.take k) e.key).isSome := by
  rw [Bool.eq_iff_iff]
  unfold freshB keysOf
  rw [Bool.not_eq_true', ← Bool.not_eq_true, keys_some, List.all_eq_true]
  constructor
  · rintro h (h1 | ⟨d, hd, h1, h2⟩)
    · cases h1
    · have h3 := h d hd
      obtain ⟨h4, h5⟩ := key_inj d e (hl d (List.mem_of_mem_take hd)) he h1 hr h2
      simp [h4, h5] at h3
  · intro h d hd
    by_cases hde : d.p = e.p ∧ d.i = e.i
    · refine absurd (.inr ⟨d, hd, ?_, ?_⟩) h
      · unfold PutE.right at hr ⊢; rw [hde.1, hde.2]; exact hr
      · unfold PutE.key; rw [hde.1, hde.2]
    · simp [hde]
theorem fresh_snoc (l : List PutE) (k : Nat) (e d : PutE) (h : l[k]? = some d) : freshB l (k + 1) e = (freshB l k e && !(decide (d.p = e.p ∧ d.i = e.i))) := by
  unfold freshB
  rw [List.take_add_one, h]
  simp
end Addr05
end Go.Proofs.YtcpokkkdmenmgaaDoor
/- pfx: a slice of prefixes with values, as it is opened. No condition. -/
namespace Go.Proofs.YtcpokkkdmenmgaaDoor
open Go.RowKit Go.ChangeShapes Go.WideShapes Go.ChangeAt Go.Deep
namespace Addr05
def putC (e : PutE) : List Value := [.bool e.p.v6, .int .u64 (e.p.hi : Int), .int .u64 (e.p.lo : Int), .int .i64 e.i, .int .i64 e.v]
def PutE.ok (e : PutE) : Prop := e.p.ok ∧ (-9223372036854775808 ≤ e.i ∧ e.i ≤ 9223372036854775807) ∧ (-9223372036854775808 ≤ e.v ∧ e.v ≤ 9223372036854775807)
section
variable {H : Type} {enc : TypeId × Value → H} {w : World} {spare : Nat → Bool} {held : Bool}
theorem open_u64n {m : Nat} {v : Value} {y : DataW H × List MemPlace} (h : DataW.trod enc Tryd.prog w 0 spare held m 25 [v] = some y) : ∃ n : Nat, v = .int .u64 (n : Int) ∧ n < 18446744073709551616 := by
  obtain ⟨n, e, _, hw⟩ := DataW.trod_int Tryd.underlying25 h
  cases e
  obtain ⟨k, rfl, hk⟩ := u64_nat hw
  exact ⟨k, rfl, hk⟩
end
end Addr05
end Go.Proofs.YtcpokkkdmenmgaaDoor
/- wide: Mul; rate: Go. Conditions: numbers in range. -/
namespace Go.Proofs.YtcpokkkdmenmgaaDoor
open Go.RowKit Go.ChangeShapes Go.WideShapes Go.ChangeAt Go.Deep
namespace Addr05
/-- What a bucket has when time has gone by. -/
def goH (e m h n t : Int) : Int := if (t - n) * e ≤ m - h then h + (t - n) * e else m
end Addr05
end Go.Proofs.YtcpokkkdmenmgaaDoor
/- rate: Wait. Conditions: numbers in range. -/
namespace Go.Proofs.YtcpokkkdmenmgaaDoor
open Go.RowKit Go.ChangeShapes Go.WideShapes Go.ChangeAt Go.Deep
namespace Addr05
/-- When a bucket has so many. -/
def waitF (e m h n k : Int) : Int :=
  if k < 0 ∨ m < k then -1 else if k ≤ h then n else if e = 0 then -1 else if 1099511627776 < n + (k - h - 1) / e + 1 then -1 else n + (k - h - 1) / e + 1
end Addr05
end Go.Proofs.YtcpokkkdmenmgaaDoor
/- limit: none, Of. Conditions: numbers of 64 bits. -/
namespace Go.Proofs.YtcpokkkdmenmgaaDoor
open Go.RowKit Go.ChangeShapes Go.WideShapes Go.ChangeAt Go.Deep
namespace Addr05
/-- What the trie finds: the mark of the longest prefix, and its bits. -/
def fnd (M : Keys) (a : Adr) : Option (Int × Nat) := if rightB a.v6 a.hi a.lo = true then best (fun j => M (pkey a j)) (a.w + 1) else none
/-- The place of the rule under which an address falls, or -1. -/
def ofL (r : Option (Int × Nat)) : Int := match r with | none => -1 | some p => p.1
theorem lt_of_blk {w : World} {g : Nat} {o : Obj} (h : w.heap[g]? = some o) : g < w.heap.size := by
  rcases Nat.lt_or_ge g w.heap.size with h1 | h1
  · exact h1
  · rw [Array.getElem?_eq_none h1] at h; cases h
end Addr05
end Go.Proofs.YtcpokkkdmenmgaaDoor
/- limit: Take, Wait, Have at one bucket. Conditions: numbers in range. -/
namespace Go.Proofs.YtcpokkkdmenmgaaDoor
open Go.RowKit Go.ChangeShapes Go.WideShapes Go.ChangeAt Go.Deep
namespace Addr05
end Addr05
end Go.Proofs.YtcpokkkdmenmgaaDoor
/- limit: Wait, Have at one bucket. Conditions: numbers in range. -/
namespace Go.Proofs.YtcpokkkdmenmgaaDoor
open Go.RowKit Go.ChangeShapes Go.WideShapes Go.ChangeAt Go.Deep
namespace Addr05
end Addr05
end Go.Proofs.YtcpokkkdmenmgaaDoor
