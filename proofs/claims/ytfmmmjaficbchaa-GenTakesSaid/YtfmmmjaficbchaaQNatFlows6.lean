/- The small functions of layer 9, by contract: headers that extend one, as a slice that reads as a list. Conditions: slices that read as lists. -/
import Derived.Test.YtfmmmjaficbchaaQNatFlows4
import Derived.Test.YtfmmmjaficbchaaQNatFlows2
import Derived.Test.YtfmmmjaficbchaaQNatFlows1
import Derived.Test.YtfmmmjaficbchaaQNatFlows3
import Derived.Test.YtfmmmjaficbchaaQNatFlows5
import Derived.Deep.DeepCutAuto
import Derived.Handy
namespace Go.Proofs.Ytfmmmjaficbchaa
open Go.RowKit Go.ChangeShapes Go.WideShapes Go.ChangeAt Go.Deep
namespace Six
/-- A header that extends one: its kind, where its bytes lie, its bytes. -/
structure Ext where
  k : Int
  A : Option Addr
  c : Nat
  xs : List UInt8
/-- Its cells. -/
def Ext.cs (e : Ext) : List Value := [.int .i64 e.k, .slice e.A e.xs.length e.c]
def cells (es : List Ext) : List Value := es.flatMap Ext.cs
theorem cells_length (es : List Ext) : (cells es).length = es.length * 2 := by
  induction es with
  | nil => rfl
  | cons e es ih => simp only [cells, List.flatMap_cons, List.length_append, Ext.cs, List.length_cons, List.length_nil] at ih ⊢; omega
theorem cells_get (es : List Ext) : ∀ (i : Nat) (h : i < es.length), (cells es)[i * 2]? = some (.int .i64 es[i].k) ∧ (cells es)[i * 2 + 1]? = some (.slice es[i].A es[i].xs.length es[i].c) := by
  induction es with
  | nil => intro i h; simp at h
  | cons e es ih =>
    intro i h
    rcases i with _ | i
    · simp [cells, Ext.cs]
    · have h1 := ih i (by simpa using h)
      have e1 : (i + 1) * 2 = i * 2 + 2 := by omega
      have e2 : (i + 1) * 2 + 1 = (i * 2 + 1) + 2 := by omega
      rw [e1]
      simp only [cells, List.flatMap_cons, Ext.cs, List.cons_append, List.nil_append] at h1 ⊢
      exact ⟨by simpa using h1.1, by simpa using h1.2⟩
/-- The slice reads as these, below block B. -/
def IsX (w : World) (B : Nat) (A : Option Addr) (n : Nat) (es : List Ext) : Prop :=
  es.length = n ∧ IsV w B 2 A n (cells es) ∧ ∀ e ∈ es, IsB w B e.A e.xs.length e.xs ∧ e.xs.length ≤ e.c ∧ e.c ≤ maxLen
section
variable {w w' : World} {B B' n : Nat} {A : Option Addr} {es : List Ext}
theorem IsX.nil (w : World) (B : Nat) (A : Option Addr) : IsX w B A 0 [] := ⟨rfl, IsV.nil _ _ _ _, fun _ h => by cases h⟩
theorem IsX.below (h : IsX w B A n es) (hb : Below B w w') : IsX w' B A n es := ⟨h.1, h.2.1.below hb, fun e he => ⟨(h.2.2 e he).1.below hb, (h.2.2 e he).2⟩⟩
theorem IsX.more (h : IsX w B A n es) (hB : B ≤ B') : IsX w B' A n es := ⟨h.1, h.2.1.more hB, fun e he => ⟨(h.2.2 e he).1.more hB, (h.2.2 e he).2⟩⟩
theorem IsX.on (h : IsX w w.heap.size A n es) (hb : Below w.heap.size w w') : IsX w' w'.heap.size A n es := (h.below hb).more hb.size
theorem IsX.later (h : IsX w w.heap.size A n es) (l : Later w) : IsX l.w l.w.heap.size A n es := h.on l.hb
theorem IsX.alloc (h : IsX w w.heap.size A n es) (o : Obj) : IsX (w.alloc o) (w.alloc o).heap.size A n es := h.on ((Below.refl _ _).alloc (Nat.le_refl _) o)
theorem IsX.at (h : IsX w B A n es) {i : Nat} (hi : i < n) : ∃ b off k Ae c xs, A = some ⟨b, off, none⟩ ∧ b < B ∧ es[i]? = some ⟨k, Ae, c, xs⟩ ∧ w.cell? ⟨b, off + i * 2, none⟩ = some (.int .i64 k) ∧ w.cell? ⟨b, off + i * 2 + 1, none⟩ = some (.slice Ae xs.length c) ∧ IsB w B Ae xs.length xs ∧ xs.length ≤ c ∧ c ≤ maxLen := by
  obtain ⟨hl, hv, hp⟩ := h
  obtain ⟨b, off, e, hb, hc⟩ := hv.2 (by omega)
  have hil : i < es.length := by omega
  have hg := cells_get es i hil
  have hcl := cells_length es
  refine ⟨b, off, es[i].k, es[i].A, es[i].c, es[i].xs, e, hb, by rw [List.getElem?_eq_getElem hil], ?_, ?_, hp _ (List.getElem_mem hil)⟩
  · rw [hc (i * 2) (by omega)]
    rw [List.getElem?_eq_getElem (by omega)] at hg
    exact hg.1
  · rw [Nat.add_assoc, hc (i * 2 + 1) (by omega)]
    have h2 := hg.2
    rw [List.getElem?_eq_getElem (by omega)] at h2
    exact h2
end
/-- Does a kind extend? -/
def isB (k : Int) : Bool := decide (k = 0 ∨ k = 43 ∨ k = 44 ∨ k = 60)
theorem is_any (k : Int) (w : World) : Calls Try.prog 93 #[.int .i64 k] w fun e w' => e = .returned (.bool (isB k)) ∧ w = w' := by
  by_cases h0 : k = 0
  · subst h0
    go_enter Try.func93, Try.ntmps93
    go_wp2_with fail
    go_ret
    exact ⟨rfl, rfl⟩
  by_cases h1 : k = 43
  · subst h1
    go_enter Try.func93, Try.ntmps93
    go_wp2_with fail
    go_ret
    exact ⟨rfl, rfl⟩
  by_cases h2 : k = 44
  · subst h2
    go_enter Try.func93, Try.ntmps93
    go_wp2_with fail
    go_ret
    exact ⟨rfl, rfl⟩
  have e : ∀ b : Bool, (k == 60) = b → isB k = b := by
    intro b hb
    subst hb
    unfold isB
    by_cases h3 : k = 60 <;> simp [h0, h1, h2, h3]
  have t0 : (k == 0) = false := by simp [h0]
  have t1 : (k == 43) = false := by simp [h1]
  have t2 : (k == 44) = false := by simp [h2]
  rw [e _ rfl]
  clear h0 h1 h2 e
  go_enter Try.func93, Try.ntmps93
  go_wp2_with fail
  all_goals (go_ret; exact ⟨rfl, rfl⟩)
/-- A header, as a value. -/
abbrev hdV (cls lab hop : Int) (sv : Bool) (shi slo : Int) (dv : Bool) (dhi dlo : Int) (X : Option Addr) (n c : Nat) (proto : Int) : Value :=
  .agg #[.int .i64 cls, .int .i64 lab, .int .i64 hop, .bool sv, .int .u64 shi, .int .u64 slo, .bool dv, .int .u64 dhi, .int .u64 dlo, .slice X n c, .int .i64 proto]
abbrev hdC (cls lab hop : Int) (sv : Bool) (shi slo : Int) (dv : Bool) (dhi dlo : Int) (X : Option Addr) (n c : Nat) (proto : Int) : Obj :=
  .cells #[.int .i64 cls, .int .i64 lab, .int .i64 hop, .bool sv, .int .u64 shi, .int .u64 slo, .bool dv, .int .u64 dhi, .int .u64 dlo, .slice X n c, .int .i64 proto] 98
/-- Is one the header of a part? -/
def Ext.isPart (e : Ext) : Bool := decide (e.k = 44 ∧ e.xs.length = 7)
def partB (es : List Ext) : List UInt8 := match es.find? Ext.isPart with | some e => e.xs | none => []
def partV (es : List Ext) : Value := match es.find? Ext.isPart with | some e => .slice e.A e.xs.length e.c | none => .slice none 0 0
theorem find_here {es : List Ext} {j : Nat} {e : Ext} (h0 : (es.take j).find? Ext.isPart = none) (hj : es[j]? = some e) (hp : e.isPart = true) : es.find? Ext.isPart = some e := by
  obtain ⟨hlt, rfl⟩ := List.getElem?_eq_some_iff.1 hj
  rw [show es.find? Ext.isPart = (es.take j ++ (es[j] :: es.drop (j + 1))).find? Ext.isPart from by rw [← List.drop_eq_getElem_cons hlt, List.take_append_drop], List.find?_append, h0]
  simp only [Option.none_or, List.find?_cons, hp]
theorem find_on {es : List Ext} {j : Nat} {e : Ext} (h0 : (es.take j).find? Ext.isPart = none) (hj : es[j]? = some e) (hp : e.isPart = false) : (es.take (j + 1)).find? Ext.isPart = none := by
  obtain ⟨hlt, rfl⟩ := List.getElem?_eq_some_iff.1 hj
  rw [List.take_succ_eq_append_getElem hlt, List.find?_append, h0]
  simp [hp]
set_option maxRecDepth 4000 in
set_option maxHeartbeats 2000000 in
theorem part_any (cls lab hop : Int) (sv : Bool) (shi slo : Int) (dv : Bool) (dhi dlo : Int) (X : Option Addr) (n c : Nat) (proto : Int) (es : List Ext) (w : World) (hx : IsX w w.heap.size X n es) (hn : n ≤ maxLen) :
    Calls Try.prog 87 #[hdV cls lab hop sv shi slo dv dhi dlo X n c proto] w fun e w' => e = .returned (partV es) ∧ Below w.heap.size w w' := by
  unfold maxLen at hn
  have hbox := blk_new w 98 #[.int .i64 cls, .int .i64 lab, .int .i64 hop, .bool sv, .int .u64 shi, .int .u64 slo, .bool dv, .int .u64 dhi, .int .u64 dlo, .slice X n c, .int .i64 proto]
  obtain ⟨w1, hw1⟩ : ∃ w1, w.alloc (hdC cls lab hop sv shi slo dv dhi dlo X n c proto) = w1 := ⟨_, rfl⟩
  have hb1 : Below w.heap.size w w1 := hw1 ▸ (Below.refl _ _).alloc (Nat.le_refl _) _
  unfold hdC at hw1
  rw [hw1] at hbox
  have hcg := blk_cell hbox
  have hx1 := hx.on hb1
  replace hx := hide hx
  replace hx1 := hide hx1
  replace hb1 := hide hb1
  replace hbox := hide hbox
  unfold hdV
  go_enter Try.func87, Try.ntmps87
  go_wp2_with fail
  clear hw1 hcg
  go_loopw [8] (fun i wr => ∃ j : Nat, j ≤ n ∧ i = .int .i64 (j : Int) ∧ (es.take j).find? Ext.isPart = none ∧ Below w1.heap.size w1 wr) (fun i _ => n - (intOf i).toNat)
  case atStart => exact ⟨0, Nat.zero_le _, rfl, rfl, Below.refl _ _⟩
  case round =>
    obtain ⟨j, hj, rfl, hf, hbr⟩ := hrel
    have hxr := hx1.out.on hbr
    replace hf := hide hf
    replace hbr := hide hbr
    by_cases hlt : j < n
    · obtain ⟨b, off, k, Ae, ce, xs, rfl, hbl, hge, hc0, hc1, hbx, hxc, hxm⟩ := hxr.at hlt
      have hji : (j : Int) < (n : Int) := by omega
      have hj0 : (0 : Int) ≤ (j : Int) := by omega
      replace hxr := hide hxr
      replace hge := hide hge
      replace hbx := hide hbx
      by_cases hp : k = 44 ∧ xs.length = 7
      · obtain ⟨rfl, h7⟩ := hp
        have h7' : ((xs.length : Int) == 7) = true := by simp; omega
        replace h7 := hide h7
        go_wp2_with fail
        go_ret
        refine ⟨?_, hb1.out.trans ((hbr.out.trans ((Below.refl _ _).alloc hbr.out.size _)).mono hb1.out.size)⟩
        unfold partV
        rw [find_here hf.out hge.out (by simp [Ext.isPart, h7.out])]
        rfl
      · have hnp : Ext.isPart ⟨k, Ae, ce, xs⟩ = false := by simp [Ext.isPart]; intro h; exact fun h2 => hp ⟨h, h2⟩
        have hfn := find_on hf.out hge.out hnp
        replace hfn := hide hfn
        replace hnp := hide hnp
        have hend : Below w1.heap.size w1 (wr.alloc (.cells #[.int .i64 k, .slice Ae xs.length ce] 121)) := hbr.out.alloc hbr.out.size _
        replace hend := hide hend
        by_cases hk : k = 44
        · have hk' : (k == 44) = true := by simp [hk]
          have h7' : ((xs.length : Int) == 7) = false := by simp; omega
          replace hk := hide hk
          clear hp
          go_wp2_with fail
          exact ⟨⟨j + 1, by omega, by go_num, hfn.out, hend.out⟩, by simp [intOf]; omega⟩
        · have hk' : (k == 44) = false := by simp [hk]
          clear hp
          go_wp2_with fail
          exact ⟨⟨j + 1, by omega, by go_num, hfn.out, hend.out⟩, by simp [intOf]; omega⟩
    · have hjn : es.take j = es := List.take_of_length_le (by have := hx.out.1; omega)
      have hji : ¬ (j : Int) < (n : Int) := by omega
      replace hxr := hide hxr
      replace hjn := hide hjn
      go_wp2_with fail
      go_ret
      refine ⟨?_, hb1.out.trans (hbr.out.mono hb1.out.size)⟩
      have h0 := hf.out
      rw [hjn.out] at h0
      unfold partV
      rw [h0]
      rfl
theorem partV_read (es : List Ext) (w : World) (B : Nat) (h : ∀ e ∈ es, IsB w B e.A e.xs.length e.xs ∧ e.xs.length ≤ e.c ∧ e.c ≤ maxLen) : ∃ A n c, partV es = .slice A n c ∧ IsB w B A n (partB es) ∧ n ≤ maxLen := by
  unfold partV partB
  rcases hf : es.find? Ext.isPart with _ | e
  · exact ⟨none, 0, 0, rfl, IsB.nil _ _ _, by unfold maxLen; omega⟩
  · have hm := h e (List.mem_of_find?_eq_some hf)
    exact ⟨e.A, _, e.c, rfl, hm.1, by omega⟩
set_option maxRecDepth 4000 in
set_option maxHeartbeats 2000000 in
theorem frag_any (cls lab hop : Int) (sv : Bool) (shi slo : Int) (dv : Bool) (dhi dlo : Int) (X : Option Addr) (n c : Nat) (proto : Int) (es : List Ext) (w : World) (hx : IsX w w.heap.size X n es) (hn : n ≤ maxLen) :
    Calls Try.prog 65 #[hdV cls lab hop sv shi slo dv dhi dlo X n c proto] w fun e w' => e = .returned (.int .i64 ((beN (partB es) 1 2 / 8 : Nat) : Int)) ∧ Below w.heap.size w w' := by
  have hx1 := hx.alloc (hdC cls lab hop sv shi slo dv dhi dlo X n c proto)
  unfold hdC at hx1
  obtain ⟨v, hv⟩ : ∃ v, beN (partB es) 1 2 = v := ⟨_, rfl⟩
  have hvl : v < 65536 := by rw [← hv]; exact beN_lt _ 1 2
  have hres : Ending.returned (.int .i64 ((v : Int) / 8)) = .returned (.int .i64 ((beN (partB es) 1 2 / 8 : Nat) : Int)) := by rw [hv]; exact ret_int (by omega)
  replace hx := hide hx
  replace hx1 := hide hx1
  replace hv := hide hv
  replace hres := hide hres
  unfold hdV
  go_enter Try.func65, Try.ntmps65
  go_wp2_with fail
  refine (part_any cls lab hop sv shi slo dv dhi dlo X n c proto es _ hx1.out hn).mono ?_
  rintro e w1 ⟨rfl, hb1⟩
  have hbw := ((Below.refl w.heap.size w).alloc (Nat.le_refl _) (hdC cls lab hop sv shi slo dv dhi dlo X n c proto)).trans (hb1.mono (by simp))
  obtain ⟨A', n', c', hpv, hpr, hpn⟩ := partV_read es w1 w1.heap.size (hx1.out.on hb1).2.2
  rw [hpv]
  clear hpv hb1
  replace hbw := hide hbw
  replace hpr := hide hpr
  go_wp2_with fail
  refine (Octet.at_lit _ _ 1 2 rfl rfl _ _ _ (partB es) _ hpr.out hpn (by omega) (by omega)).mono ?_
  rintro e w' ⟨rfl, rfl⟩
  rw [hv.out]
  go_wp2_with fail
  go_ret
  exact ⟨hres.out, hbw.out⟩
end Six
end Go.Proofs.Ytfmmmjaficbchaa
/- Which headers may be: the code's and the law's answers, where they may. -/
namespace Go.Proofs.Ytfmmmjaficbchaa
open Go.RowKit Go.ChangeShapes Go.WideShapes Go.ChangeAt Go.Deep
namespace Four
set_option maxRecDepth 20000 in
set_option maxHeartbeats 2000000 in
theorem right_yes (tos id : Int) (df mf : Bool) (frag ttl proto slo dlo : Int) (A : Option Addr) (n c : Nat) (w : World) (g1 : 0 ≤ tos) (h1 : tos ≤ 255) (g2 : 0 ≤ id) (h2 : id ≤ 65535) (g3 : 0 ≤ frag) (h3 : frag ≤ 8191) (g4 : 0 ≤ ttl) (h4 : ttl ≤ 255) (g5 : 0 ≤ proto) (h5 : proto ≤ 255) (h6 : slo < 4294967296) (h7 : dlo < 4294967296) (h8 : n ≤ 40) (h9 : n % 4 = 0) :
    Calls Try.prog 90 #[hdV tos id df mf frag ttl proto false 0 slo false 0 dlo A n c] w fun e w' => e = .returned (.bool true) ∧ Below w.heap.size w w' := by
  have a1 : okA false 0 slo = true := by simp [okA]; omega
  have a2 : okA false 0 dlo = true := by simp [okA]; omega
  have h10 : ((n : Int) % 4 == 0) = true := by simp; omega
  replace a1 := hide a1
  replace a2 := hide a2
  have i0 : ∀ w : World, (Instr.index 144 (.agg #[.int .i64 tos, .int .i64 ttl, .int .i64 proto]) (.int .i64 0)).run Try.prog w = .ok (.int .i64 tos) w := fun _ => by kernel_rfl
  have i1 : ∀ w : World, (Instr.index 144 (.agg #[.int .i64 tos, .int .i64 ttl, .int .i64 proto]) (.int .i64 1)).run Try.prog w = .ok (.int .i64 ttl) w := fun _ => by kernel_rfl
  have i2 : ∀ w : World, (Instr.index 144 (.agg #[.int .i64 tos, .int .i64 ttl, .int .i64 proto]) (.int .i64 2)).run Try.prog w = .ok (.int .i64 proto) w := fun _ => by kernel_rfl
  unfold hdV
  go_enter Try.func90, Try.ntmps90
  go_wp2_with fail
  refine wp_loop_rounds 4 ?_
  iterate 4 (rw [rounds_succ]; go_wp2_with fail)
  refine (addr_right false 0 slo true _ a1.out).mono ?_
  rintro e w1 ⟨rfl, hb1⟩
  have hz1 := hb1.size
  simp only [World.size_alloc] at hz1
  have hg1 := blk_below hb1 (by simp) (blk_new _ _ _)
  have hcg := blk_cell hg1
  replace hg1 := hide hg1
  replace hb1 := hide hb1
  go_wp2_with fail
  refine (addr_right false 0 dlo true _ a2.out).mono ?_
  rintro e w2 ⟨rfl, hb2⟩
  have hg2 := blk_below hb2 (by omega) hg1.out
  have hcg2 := blk_cell hg2
  clear hcg
  replace hg2 := hide hg2
  go_wp2_with fail
  go_ret
  exact ⟨by simp, ((Below.refl _ _).alloc (Nat.le_refl _) _).trans ((hb1.out.mono (by simp)).trans (hb2.mono (by omega)))⟩
end Four
end Go.Proofs.Ytfmmmjaficbchaa
/- Which headers may be: the code's and the law's answers, for every header. No condition. -/
namespace Go.Proofs.Ytfmmmjaficbchaa
open Go.RowKit Go.ChangeShapes Go.WideShapes Go.ChangeAt Go.Deep
namespace Four
/-- May a header be? -/
def rightB (tos id frag ttl proto : Int) (sv : Bool) (shi slo : Int) (dv : Bool) (dhi dlo : Int) (n : Nat) : Bool :=
  decide (0 ≤ tos ∧ tos ≤ 255 ∧ 0 ≤ ttl ∧ ttl ≤ 255 ∧ 0 ≤ proto ∧ proto ≤ 255 ∧ 0 ≤ id ∧ id ≤ 65535 ∧ 0 ≤ frag ∧ frag ≤ 8191 ∧ sv = false ∧ dv = false ∧ okA sv shi slo = true ∧ okA dv dhi dlo = true ∧ n ≤ 40 ∧ n % 4 = 0)
theorem rightB_no {tos id frag ttl proto : Int} {sv : Bool} {shi slo : Int} {dv : Bool} {dhi dlo : Int} {n : Nat}
    (h : ¬ (0 ≤ tos ∧ tos ≤ 255 ∧ 0 ≤ ttl ∧ ttl ≤ 255 ∧ 0 ≤ proto ∧ proto ≤ 255 ∧ 0 ≤ id ∧ id ≤ 65535 ∧ 0 ≤ frag ∧ frag ≤ 8191 ∧ sv = false ∧ dv = false ∧ okA sv shi slo = true ∧ okA dv dhi dlo = true ∧ n ≤ 40 ∧ n % 4 = 0)) :
    Ending.returned (.bool false) = .returned (.bool (rightB tos id frag ttl proto sv shi slo dv dhi dlo n)) := by
  unfold rightB
  rw [decide_eq_false h]
theorem rightB_yes {tos id frag ttl proto : Int} {sv : Bool} {shi slo : Int} {dv : Bool} {dhi dlo : Int} {n : Nat}
    (h : 0 ≤ tos ∧ tos ≤ 255 ∧ 0 ≤ ttl ∧ ttl ≤ 255 ∧ 0 ≤ proto ∧ proto ≤ 255 ∧ 0 ≤ id ∧ id ≤ 65535 ∧ 0 ≤ frag ∧ frag ≤ 8191 ∧ sv = false ∧ dv = false ∧ okA sv shi slo = true ∧ okA dv dhi dlo = true) (h1 : n ≤ 40) :
    Ending.returned (.bool ((n : Int) % 4 == 0)) = .returned (.bool (rightB tos id frag ttl proto sv shi slo dv dhi dlo n)) := by
  unfold rightB
  congr 2
  rw [Bool.eq_iff_iff]
  simp only [beq_iff_eq, decide_eq_true_eq]
  obtain ⟨a1, a2, a3, a4, a5, a6, a7, a8, a9, a10, a11, a12, a13, a14⟩ := h
  exact ⟨fun h => ⟨a1, a2, a3, a4, a5, a6, a7, a8, a9, a10, a11, a12, a13, a14, h1, by omega⟩, fun h => by omega⟩
set_option maxRecDepth 20000 in
set_option maxHeartbeats 8000000 in
theorem right_any (tos id : Int) (df mf : Bool) (frag ttl proto : Int) (sv : Bool) (shi slo : Int) (dv : Bool) (dhi dlo : Int) (A : Option Addr) (n c : Nat) (w : World) (hn : n ≤ maxLen) :
    Calls Try.prog 90 #[hdV tos id df mf frag ttl proto sv shi slo dv dhi dlo A n c] w fun e w' => e = .returned (.bool (rightB tos id frag ttl proto sv shi slo dv dhi dlo n)) ∧ Below w.heap.size w w' := by
  unfold maxLen at hn
  have i0 : ∀ w : World, (Instr.index 144 (.agg #[.int .i64 tos, .int .i64 ttl, .int .i64 proto]) (.int .i64 0)).run Try.prog w = .ok (.int .i64 tos) w := fun _ => by kernel_rfl
  have i1 : ∀ w : World, (Instr.index 144 (.agg #[.int .i64 tos, .int .i64 ttl, .int .i64 proto]) (.int .i64 1)).run Try.prog w = .ok (.int .i64 ttl) w := fun _ => by kernel_rfl
  have i2 : ∀ w : World, (Instr.index 144 (.agg #[.int .i64 tos, .int .i64 ttl, .int .i64 proto]) (.int .i64 2)).run Try.prog w = .ok (.int .i64 proto) w := fun _ => by kernel_rfl
  unfold hdV
  go_enter Try.func90, Try.ntmps90
  go_wp2_with fail
  refine wp_loop_rounds 4 ?_
  iterate 4 (all_goals (try (rw [rounds_succ]; go_wp2_with fail)))
  all_goals (try (go_ret; refine ⟨rightB_no ?_, (Below.refl _ _).alloc (Nat.le_refl _) _⟩; first | (intro hh; omega) | (intro hh; simp_all)))
  have hs : sv = false := by simpa using ‹¬ sv = true›
  have hd : dv = false := by simpa using ‹¬ dv = true›
  subst hs hd
  rcases ha1 : okA false shi slo with _ | _
  · refine (addr_right false shi slo false _ ha1).mono ?_
    rintro e w1 ⟨rfl, hb1⟩
    replace ha1 := hide ha1
    go_wp2_with fail
    go_ret
    refine ⟨rightB_no ?_, ((Below.refl _ _).alloc (Nat.le_refl _) _).trans (hb1.mono (by simp))⟩
    intro hh
    have := ha1.out
    simp_all
  refine (addr_right false shi slo true _ ha1).mono ?_
  rintro e w1 ⟨rfl, hb1⟩
  have hz1 := hb1.size
  simp only [World.size_alloc] at hz1
  have hg1 := blk_below hb1 (by simp) (blk_new _ _ _)
  have hcg := blk_cell hg1
  replace hg1 := hide hg1
  replace hb1 := hide hb1
  replace ha1 := hide ha1
  go_wp2_with fail
  rcases ha2 : okA false dhi dlo with _ | _
  · refine (addr_right false dhi dlo false _ ha2).mono ?_
    rintro e w2 ⟨rfl, hb2⟩
    replace ha2 := hide ha2
    go_wp2_with fail
    go_ret
    refine ⟨rightB_no ?_, ((Below.refl _ _).alloc (Nat.le_refl _) _).trans ((hb1.out.mono (by simp)).trans (hb2.mono (by omega)))⟩
    intro hh
    have := ha2.out
    simp_all
  refine (addr_right false dhi dlo true _ ha2).mono ?_
  rintro e w2 ⟨rfl, hb2⟩
  have hg2 := blk_below hb2 (by omega) hg1.out
  have hcg2 := blk_cell hg2
  clear hcg
  replace hg2 := hide hg2
  replace ha2 := hide ha2
  have hbb := ((Below.refl w.heap.size w).alloc (Nat.le_refl _) (hdC tos id df mf frag ttl proto false shi slo false dhi dlo A n c)).trans ((hb1.out.mono (by simp)).trans (hb2.mono (by omega)))
  replace hbb := hide hbb
  by_cases h40 : n ≤ 40
  · have h40' : (n : Int) ≤ 40 := by omega
    go_wp2_with fail
    go_ret
    refine ⟨?_, hbb.out⟩
    exact rightB_yes ⟨by omega, by omega, by omega, by omega, by omega, by omega, by omega, by omega, by omega, by omega, rfl, rfl, ha1.out, ha2.out⟩ h40
  · have h40' : ¬ (n : Int) ≤ 40 := by omega
    go_wp2_with fail
    go_ret
    refine ⟨rightB_no ?_, hbb.out⟩
    intro hh
    omega
end Four
end Go.Proofs.Ytfmmmjaficbchaa
/- icmp.Right and icmp.Bytes by contract. Conditions: slices of bytes that read as lists, below 2^30 bytes. -/
namespace Go.Proofs.Ytfmmmjaficbchaa
open Go.RowKit Go.ChangeShapes Go.WideShapes Go.ChangeAt Go.Deep
namespace Icmp
/-- A message's bytes, the check's two still 0. -/
def head0 (t k wd : Nat) (xs : List UInt8) : List UInt8 := [UInt8.ofNat t, UInt8.ofNat k, 0, 0] ++ (beB wd 4 ++ xs)
def msgB (ps : List UInt8) (t k wd : Nat) (xs : List UInt8) : List UInt8 := setB (head0 t k wd xs) 2 (beB (65535 - Sum.ones (Sum.tot false (ps ++ head0 t k wd xs))) 2)
theorem isP_two' {w : World} (b : Nat) (hb : w.heap.size = b) {t : TypeId} {A P : Option Addr} {n c m d : Nat} {xs ps : List UInt8} (hx : IsB w w.heap.size A n xs) (hp : IsB w w.heap.size P m ps) (hn : n ≤ maxLen) (hm : m ≤ maxLen) :
    Sum.IsP (w.alloc (.cells #[.slice P m d, .slice A n c] t)) (w.alloc (.cells #[.slice P m d, .slice A n c] t)).heap.size (some ⟨b, 0, none⟩) 2 [⟨P, d, ps⟩, ⟨A, c, xs⟩] := isP_two b hb hx hp hn hm
end Icmp
end Go.Proofs.Ytfmmmjaficbchaa
/- udp.Parse, by contract. Conditions: slices of bytes that read as lists, at most 2^40 bytes. -/
namespace Go.Proofs.Ytfmmmjaficbchaa
open Go.RowKit Go.ChangeShapes Go.WideShapes Go.ChangeAt Go.Deep
namespace Udp
/-- Why bytes are no datagram: 0 if they are one. -/
def parseK (bare : Bool) (ps xs : List UInt8) : Nat :=
  if xs.length < 8 then 2 else if beN xs 4 2 ≠ xs.length then 12 else if beN xs 6 2 = 0 then (if bare = true then 0 else 13) else if Sum.ones (Sum.tot false (ps ++ xs)) = 65535 then 0 else 13
def parseS (K : Nat) (xs : List UInt8) (p : Nat) : Nat := if K = 0 then beN xs p 2 else 0
def parseB (K : Nat) (xs : List UInt8) : Bool := decide (K = 0 ∧ beN xs 6 2 = 0)
def parseR (K : Nat) (xs : List UInt8) : List UInt8 := if K = 0 then xs.drop 8 else []
/-- How it ends. -/
def PEnd (K : Nat) (xs : List UInt8) (w w' : World) (e : Ending) : Prop :=
  ∃ A' m' c', e = .returned (.tuple #[.agg #[.int .i64 (parseS K xs 0 : Nat), .int .i64 (parseS K xs 2 : Nat), .bool (parseB K xs)], .slice A' m' c', .int .i64 (K : Int)]) ∧ IsB w' w'.heap.size A' m' (parseR K xs) ∧ m' ≤ c' ∧ c' ≤ maxLen ∧ Below w.heap.size w w'
theorem end_no {K : Nat} {xs : List UInt8} {w w' : World} (h : K ≠ 0) (hb : Below w.heap.size w w') : PEnd K xs w w' (.returned (.tuple #[.agg #[.int .i64 0, .int .i64 0, .bool false], .slice none 0 0, .int .i64 (K : Int)])) := by
  refine ⟨none, 0, 0, ?_, ?_, Nat.le_refl _, by unfold maxLen; omega, hb⟩
  · unfold parseS parseB
    rw [if_neg h, if_neg h, decide_eq_false (fun hh => h hh.1)]
    rfl
  · unfold parseR
    rw [if_neg h]
    exact IsB.nil _ _ _
set_option maxRecDepth 20000 in
set_option maxHeartbeats 8000000 in
theorem parse_any (A P : Option Addr) (n c m d : Nat) (xs ps : List UInt8) (bare : Bool) (w : World) (hx : IsB w w.heap.size A n xs) (hp : IsB w w.heap.size P m ps) (hnc : n ≤ c) (hcm : c ≤ maxLen) (hnm : n ≤ 1099511627776) (hm : m ≤ maxLen) (K : Nat) (hK : parseK bare ps xs = K) :
    Calls Try.prog 85 #[.slice A n c, .slice P m d, .bool bare] w fun e w' => PEnd K xs w w' e := by
  have hxn := hx.1
  have hx1 := hx.alloc (.cells #[.int .i64 0, .int .i64 0, .bool false] 84)
  have hp1 := hp.alloc (.cells #[.int .i64 0, .int .i64 0, .bool false] 84)
  have hb0 : Below w.heap.size w (w.alloc (.cells #[.int .i64 0, .int .i64 0, .bool false] 84)) := (Below.refl _ _).alloc (Nat.le_refl _) _
  by_cases h8 : n < 8
  · have hK2 : K = 2 := by rw [← hK]; unfold parseK; rw [if_pos (by omega)]
    subst hK2
    have hfin := end_no (K := 2) (xs := xs) (by omega) hb0
    have t1 : (n : Int) < 8 := by omega
    clear hK hcm
    replace hfin := hide hfin
    replace hx := hide hx
    replace hp := hide hp
    replace hx1 := hide hx1
    replace hp1 := hide hp1
    replace hb0 := hide hb0
    go_enter Try.func85, Try.ntmps85
    go_wp2_with fail
    exact bodyPost_ret (v := .tuple #[.agg #[.int .i64 0, .int .i64 0, .bool false], .slice none 0 0, .int .i64 2]) (by simp [results, Try.results85, go_sem]) rfl hfin.out
  have t1 : ¬ (n : Int) < 8 := by omega
  have hcm' := hcm
  unfold maxLen at hcm
  have b4 := beN_lt xs 4 2
  have b0 := beN_lt xs 0 2
  have b2 := beN_lt xs 2 2
  have b6 := beN_lt xs 6 2
  have e2 : 256 ^ 2 = 65536 := rfl
  rw [e2] at b4 b0 b2 b6
  have hA4 := Octet.at_lit 4 2 4 2 rfl rfl A n c xs _ hx1 (by unfold maxLen; omega) (by omega) (by omega)
  have hA0 := Octet.at_lit 0 2 0 2 rfl rfl A n c xs _ hx1 (by unfold maxLen; omega) (by omega) (by omega)
  have hA2 := Octet.at_lit 2 2 2 2 rfl rfl A n c xs _ hx1 (by unfold maxLen; omega) (by omega) (by omega)
  have hA6 := Octet.at_lit 6 2 6 2 rfl rfl A n c xs _ hx1 (by unfold maxLen; omega) (by omega) (by omega)
  obtain ⟨N, hN⟩ : ∃ N, beN xs 4 2 = N := ⟨_, rfl⟩
  obtain ⟨s0, hs0⟩ : ∃ N, beN xs 0 2 = N := ⟨_, rfl⟩
  obtain ⟨s2, hs2⟩ : ∃ N, beN xs 2 2 = N := ⟨_, rfl⟩
  obtain ⟨s6, hs6⟩ : ∃ N, beN xs 6 2 = N := ⟨_, rfl⟩
  rw [hN] at hA4 b4
  rw [hs0] at hA0 b0
  rw [hs2] at hA2 b2
  rw [hs6] at hA6 b6
  by_cases hne : N = n
  case neg =>
    have hK12 : K = 12 := by rw [← hK]; unfold parseK; rw [if_neg (by omega), if_pos (by omega)]
    subst hK12
    have hfin := end_no (K := 12) (xs := xs) (by omega) hb0
    have t2 : ((N : Int) == (n : Int)) = false := by rw [beq_eq_false_iff_ne]; omega
    clear hK hcm' hA0 hA2 hA6 b0 b2 b6 hs0 hs2 hs6 hne
    replace hfin := hide hfin
    replace hx := hide hx
    replace hp := hide hp
    replace hx1 := hide hx1
    replace hp1 := hide hp1
    replace hb0 := hide hb0
    replace hA4 := hide hA4
    go_enter Try.func85, Try.ntmps85
    go_wp2_with fail
    refine hA4.out.mono ?_
    rintro e w1 ⟨rfl, rfl⟩
    go_wp2_with fail
    exact bodyPost_ret (v := .tuple #[.agg #[.int .i64 0, .int .i64 0, .bool false], .slice none 0 0, .int .i64 12]) (by simp [results, Try.results85, go_sem]) rfl hfin.out
  subst hne
  obtain ⟨b, hb6⟩ : ∃ b, ((s6 : Int) == 0) = b := ⟨_, rfl⟩
  obtain ⟨w2, hw2⟩ : ∃ w2, (w.alloc (.cells #[.int .i64 0, .int .i64 0, .bool false] 84)).alloc (.cells #[.int .i64 (s0 : Int), .int .i64 (s2 : Int), .bool b] 84) = w2 := ⟨_, rfl⟩
  have hg0 : w2.heap[w.heap.size]? = some (.cells #[.int .i64 0, .int .i64 0, .bool false] 84 (0, 0)) := hw2 ▸ blk_old _ (by simp) (blk_new _ _ _)
  have hg1 : w2.heap[w.heap.size + 1]? = some (.cells #[.int .i64 (s0 : Int), .int .i64 (s2 : Int), .bool b] 84 (0, 0)) := hw2 ▸ (by simpa using blk_new (w.alloc (.cells #[.int .i64 0, .int .i64 0, .bool false] 84)) 84 #[.int .i64 (s0 : Int), .int .i64 (s2 : Int), .bool b])
  have hb2 : Below w.heap.size w w2 := hw2 ▸ hb0.alloc (by simp) _
  have hz2 : w.heap.size + 2 ≤ w2.heap.size := by rw [← hw2]; simp
  have hx2 := hx.on hb2
  have hp2 := hp.on hb2
  have hxn' : xs.length = N := hxn
  obtain ⟨r, hr⟩ : ∃ r, decide (Sum.ones (Sum.tot false (ps ++ xs)) = 65535) = r := ⟨_, rfl⟩
  have hr' : decide (Sum.ones (Sum.tot false (Sum.flat [⟨P, d, ps⟩, ⟨A, c, xs⟩])) = 65535) = r := by rw [← hr]; simp [Sum.flat]
  have hsum := Sum.right_any _ 2 2 _ _ (Icmp.isP_two w2.heap.size rfl (t := 22) (c := c) (d := d) hx2 hp2 (by unfold maxLen; omega) hm) (by unfold maxLen; omega) r hr'
  obtain ⟨f, hf⟩ : ∃ f, (if b = true then !bare else !r) = f := ⟨_, rfl⟩
  have hbs : b = decide (beN xs 6 2 = 0) := by rw [← hb6, hs6]; exact beq_nat s6 0
  have hKf : K = if f = true then 13 else 0 := by
    rw [← hK, ← hf]
    unfold parseK
    rw [if_neg (by omega), if_neg (by omega)]
    by_cases h6 : beN xs 6 2 = 0
    · rw [if_pos h6, hbs, decide_eq_true h6]
      cases bare <;> rfl
    · rw [if_neg h6, hbs, decide_eq_false h6, ← hr]
      by_cases h7 : Sum.ones (Sum.tot false (ps ++ xs)) = 65535
      · rw [if_pos h7, decide_eq_true h7]; rfl
      · rw [if_neg h7, decide_eq_false h7]; rfl
  obtain ⟨A8, hA8⟩ : ∃ A8, (if c = 8 then A else A.map (·.add 8)) = A8 := ⟨_, rfl⟩
  have hx8 : IsB w2 w2.heap.size A8 (N - 8) (xs.drop 8) := by
    have h8' := hx2.cut (k := 8) (m := N) (cap := c) (by omega) (Nat.le_refl _) hnc
    rw [List.take_of_length_le (by rw [hx2.1]; omega)] at h8'
    rw [← hA8]
    exact h8'
  obtain ⟨bb, ob, rfl, _, _⟩ := hx2.2 (by omega)
  have hadd : (⟨bb, ob, none⟩ : Addr).add 8 = ⟨bb, ob + 8, none⟩ := rfl
  simp only [Option.map_some, hadd] at hA8
  have hcg := blk_cell hg1
  clear hr hr' hK hadd hcm'
  replace hx := hide hx
  replace hp := hide hp
  replace hx1 := hide hx1
  replace hp1 := hide hp1
  replace hb0 := hide hb0
  replace hA4 := hide hA4
  replace hA0 := hide hA0
  replace hA2 := hide hA2
  replace hA6 := hide hA6
  replace hs0 := hide hs0
  replace hs2 := hide hs2
  replace hs6 := hide hs6
  replace hN := hide hN
  replace hg0 := hide hg0
  replace hg1 := hide hg1
  replace hb2 := hide hb2
  replace hx2 := hide hx2
  replace hp2 := hide hp2
  replace hsum := hide hsum
  replace hf := hide hf
  replace hbs := hide hbs
  replace hKf := hide hKf
  replace hx8 := hide hx8
  go_enter Try.func85, Try.ntmps85
  go_wp2_with fail
  refine hA4.out.mono ?_
  rintro e w1 ⟨rfl, rfl⟩
  go_wp2_with fail
  refine hA0.out.mono ?_
  rintro e w1 ⟨rfl, rfl⟩
  go_wp2_with fail
  refine hA2.out.mono ?_
  rintro e w1 ⟨rfl, rfl⟩
  go_wp2_with fail
  refine hA6.out.mono ?_
  rintro e w1 ⟨rfl, rfl⟩
  go_upto_region 7 with fail
  clear hw2
  go_cut [52] (fun sv wx => ∃ w3, sv = .bool f ∧ Below w2.heap.size w2 w3 ∧ w3 = wx)
  case first =>
    rcases b with _ | _
    · obtain rfl : (!r) = f := hf.out
      go_wp2_with fail
      refine hsum.out.mono ?_
      rintro e w3 ⟨rfl, rfl⟩
      have hbl : Below w2.heap.size w2 (w2.alloc (.cells #[.slice P m d, .slice (some ⟨bb, ob, none⟩) N c] 22)) := (Below.refl _ _).alloc (Nat.le_refl _) _
      replace hbl := hide hbl
      go_wp2_with fail
      go_meet
      exact ⟨_, rfl, hbl.out, rfl⟩
    · obtain rfl : (!bare) = f := hf.out
      rcases bare with _ | _
      · go_wp2_with fail
        go_meet
        exact ⟨w2, rfl, Below.refl _ _, rfl⟩
      · go_wp2_with fail
        go_meet
        exact ⟨w2, rfl, Below.refl _ _, rfl⟩
  case rest =>
  obtain ⟨w3, rfl, hb3, rfl⟩ := hcut
  have hg03 := blk_below hb3 (by omega) hg0.out
  have hg13 := blk_below hb3 (by omega) hg1.out
  have hB3 := hb2.out.trans (hb3.mono (by omega))
  have z3 := hb3.size
  clear hcg
  rcases f with _ | _
  · have hK0 : K = 0 := hKf.out
    subst hK0
    have hx83 := hx8.out.on hb3
    have hcl := fun (l : Later w3) (o : Nat) => blk_cell (blk_below l.hb (by omega) hg13) o
    replace hg03 := hide hg03
    replace hg13 := hide hg13
    replace hB3 := hide hB3
    replace hx83 := hide hx83
    replace hb3 := hide hb3
    go_upto_region 9 with fail
    refine wp_region_L (by as_aux_lemma => kernel_rfl) ?_
    refine wpE_seg 0 4 (fuel := 4) (by as_aux_lemma => kernel_rfl) (fun d _ _ _ _ h => by cases d <;> exact h) (by as_aux_lemma => kernel_rfl) (by as_aux_lemma => kernel_rfl) ?_
    simp only [List.drop_zero, List.take_succ_cons, List.take_zero]
    iterate 4 (refine wpQE_step (fun K hK => ?_); go_simp; refine hK _ ?_; clear hK K)
    refine wpQE_nil ?_
    clear hcl
    refine wpE_step 4 (fuel := 3) rfl (by as_aux_lemma => kernel_rfl) (fun l K hK => ?_)
    go_simp
    go_at_call 83
    refine (clone_any _ _ _ (xs.drop 8) _ (hx83.out.later l) (by omega)).mono ?_
    rintro e w4 ⟨v, rfl, hown, hb4⟩
    refine hK _ _ hb4 ?_
    clear hK K
    obtain ⟨A', c', rfl, hc', hm', hi'⟩ := hown.form
    refine wpE_end (by as_aux_lemma => kernel_rfl) (fun l2 => ?_)
    have zl := l.hb.size
    have z4 := hb4.size
    have zl2 := l2.hb.size
    have hg04 := blk_below l2.hb (by omega) (blk_below hb4 (by omega) (blk_below l.hb (by omega) hg03.out))
    have hB4 := ((hB3.out.trans (l.hb.mono (by omega))).trans (hb4.mono (by omega))).trans (l2.hb.mono (by omega))
    have hi4 := hi'.on l2.hb
    have hown4 := hown.below l2.hb
    have hcg := blk_cell hg04
    have hfg := blk_free hg04
    obtain ⟨w5, e5, hg5, g5⟩ := set3 hg04 (.int .i64 (s0 : Int)) (.int .i64 (s2 : Int)) (.bool b)
    have hB5 := hB4.trans (below_grown g5 (by omega) (Nat.le_refl _))
    have hown5 := hown4.away g5 (by omega)
    obtain ⟨_, r1, r2, r3⟩ := hown5.reads
    have hcr := blk_cell hg5
    rw [show (xs.drop 8).length = N - 8 by rw [List.length_drop, hxn]] at r1 r3
    clear hown hown4 hown5 hi' hi4 hb4 g5
    replace hg04 := hide hg04
    replace hB4 := hide hB4
    replace hg5 := hide hg5
    replace hB5 := hide hB5
    replace r3 := hide r3
    refine wpT_step 5 rfl (by as_aux_lemma => kernel_rfl) (fun K hK => ?_)
    go_simp
    refine hK _ _ ?_
    clear hK K hcg hfg e5
    refine wpT_step 6 rfl (by as_aux_lemma => kernel_rfl) (fun K hK => ?_)
    go_simp
    refine hK _ _ ?_
    clear hK K
    refine wpT_step 7 rfl (by as_aux_lemma => kernel_rfl) (fun K hK => ?_)
    go_simp
    refine hK _ _ ?_
    clear hK K
    refine wpT_done (by as_aux_lemma => kernel_rfl) ?_ 0
    go_wp2_with fail
    refine bodyPost_ret (v := .tuple #[.agg #[.int .i64 (s0 : Int), .int .i64 (s2 : Int), .bool b], .slice A' (N - 8) c', .int .i64 0]) (by simp [results, Try.results85, go_sem, hcr]) rfl ⟨A', _, c', ?_, ?_, r1, r2, hB5.out⟩
    · unfold parseS parseB
      rw [if_pos rfl, if_pos rfl, hs0.out, hs2.out, hbs.out]
      simp
    · unfold parseR
      rw [if_pos rfl]
      exact r3.out
  · have hK13 : K = 13 := hKf.out
    subst hK13
    have hcg := blk_cell hg03
    have hfg := blk_free hg03
    obtain ⟨w5, e5, hg5, g5⟩ := set3 hg03 (.int .i64 0) (.int .i64 0) (.bool false)
    have hB5 := hB3.trans (below_grown g5 (by omega) (Nat.le_refl _))
    have hfin := end_no (K := 13) (xs := xs) (by omega) hB5
    have hcr := blk_cell hg5
    clear g5
    replace hg03 := hide hg03
    replace hg13 := hide hg13
    replace hB3 := hide hB3
    replace hfin := hide hfin
    replace hg5 := hide hg5
    replace hB5 := hide hB5
    replace hb3 := hide hb3
    go_wp2_with fail
    exact bodyPost_ret (v := .tuple #[.agg #[.int .i64 0, .int .i64 0, .bool false], .slice none 0 0, .int .i64 13]) (by simp [results, Try.results85, go_sem, hcr]) rfl hfin.out
end Udp
end Go.Proofs.Ytfmmmjaficbchaa
/- four.Quote by contract; and the pseudo header. Conditions: slices of bytes that read as lists. -/
namespace Go.Proofs.Ytfmmmjaficbchaa
open Go.RowKit Go.ChangeShapes Go.WideShapes Go.ChangeAt Go.Deep
namespace Four
/-- Why bytes quote nothing; 0: they do. -/
def quoteK (n : Nat) (xs : List UInt8) : Nat := if n < 20 then 2 else if (xs.getD 0 0).toNat / 16 ≠ 4 then 10 else if (xs.getD 0 0).toNat % 16 * 4 < 20 ∨ n < (xs.getD 0 0).toNat % 16 * 4 then 11 else 0
set_option maxRecDepth 4000 in
set_option maxHeartbeats 2000000 in
theorem quote_no (A : Option Addr) (n c : Nat) (xs : List UInt8) (w : World) (hx : IsB w w.heap.size A n xs) (_hnc : n ≤ c) (hnm : n ≤ 1099511627776) (k : Nat) (hk : quoteK n xs = k) (hk0 : k ≠ 0) :
    Calls Try.prog 101 #[.slice A n c] w fun e w' => e = .returned (.tuple #[hd0, .slice none 0 0, .int .i64 (k : Int)]) ∧ Below w.heap.size w w' := by
  unfold quoteK at hk
  by_cases h1 : n < 20
  · rw [if_pos h1] at hk
    subst hk
    clear hx hk0
    go_enter Try.func101, Try.ntmps101
    go_wp2
    exact bodyPost_ret (v := .tuple #[hd0, .slice none 0 0, .int .i64 2]) (by simp [results, Try.results101, go_sem]) rfl ⟨rfl, (Below.refl _ _).alloc (Nat.le_refl _) _⟩
  rw [if_neg h1] at hk
  obtain ⟨b, off, v0, rfl, hbl, hv0, hv0l, hc0⟩ := hx.byte (i := 0) (by omega)
  rw [Nat.add_zero] at hc0
  rw [hv0] at hk
  have hd2 := ((((Below.refl w.heap.size w).alloc (Nat.le_refl _) hd0C)).cell hbl).trans hc0
  unfold hd0C hdC at hd2
  have i0 : 0 < n := by omega
  have k0 : (0 : Int) < (n : Int) := by omega
  have e0 : bits .and .u8 (v0 : Int) 15 = ((v0 % 16 : Nat) : Int) := by rw [u8_and15 (v0 : Int) (by omega) (by omega)]; omega
  obtain ⟨r, hr⟩ : ∃ r, v0 % 16 = r := ⟨_, rfl⟩
  rw [hr] at e0 hk
  replace hr := hide hr
  replace hv0 := hide hv0
  clear hx hc0
  by_cases h2 : v0 / 16 = 4
  · rw [if_neg (by omega)] at hk
    have hb : (((v0 : Int) / 16) != 4) = false := by rw [bne_eq_false_iff_eq]; omega
    have hr15 : r ≤ 15 := by have := hr.out; omega
    obtain ⟨s, hs⟩ : ∃ s, r * 4 = s := ⟨_, rfl⟩
    have e1 : (r : Int) * 4 = (s : Int) := by omega
    rw [hs] at hk
    by_cases h3 : s < 20 ∨ n < s
    · rw [if_pos h3] at hk
      subst hk
      clear hk0
      replace hs := hide hs
      have hs60 : s ≤ 60 := by have := hs.out; omega
      rcases Classical.em (s < 20) with h4 | h4
      · have t1 : (s : Int) < 20 := by omega
        clear h3
        go_enter Try.func101, Try.ntmps101
        go_wp2
        exact bodyPost_ret (v := .tuple #[hd0, .slice none 0 0, .int .i64 11]) (by simp [results, Try.results101, go_sem]) rfl ⟨rfl, (Below.refl _ _).alloc (Nat.le_refl _) _⟩
      · have t1 : ¬ (s : Int) < 20 := by omega
        have t2 : (n : Int) < (s : Int) := by omega
        clear h3
        go_enter Try.func101, Try.ntmps101
        go_wp2
        exact bodyPost_ret (v := .tuple #[hd0, .slice none 0 0, .int .i64 11]) (by simp [results, Try.results101, go_sem]) rfl ⟨rfl, (Below.refl _ _).alloc (Nat.le_refl _) _⟩
    · rw [if_neg h3] at hk
      exact absurd hk.symm hk0
  · rw [if_pos h2] at hk
    subst hk
    clear hk0
    have hb : (((v0 : Int) / 16) != 4) = true := by rw [bne_iff_ne]; omega
    go_enter Try.func101, Try.ntmps101
    go_wp2
    exact bodyPost_ret (v := .tuple #[hd0, .slice none 0 0, .int .i64 10]) (by simp [results, Try.results101, go_sem]) rfl ⟨rfl, (Below.refl _ _).alloc (Nat.le_refl _) _⟩
set_option maxRecDepth 4000 in
set_option maxHeartbeats 4000000 in
theorem quote_ok (A : Option Addr) (n c : Nat) (xs : List UInt8) (w : World) (hx : IsB w w.heap.size A n xs) (hnc : n ≤ c) (_hcm : c ≤ maxLen) (hnm : n ≤ 1099511627776) (h : 20 ≤ n) (hv : (xs.getD 0 0).toNat / 16 = 4) (s : Nat) (hs : (xs.getD 0 0).toNat % 16 * 4 = s) (h5 : 20 ≤ s) (h6 : s ≤ n) :
    Calls Try.prog 101 #[.slice A n c] w fun e w' => ∃ A1 c1 A2 c2, e = .returned (.tuple #[rawV xs A1 (s - 20) c1, .slice A2 (n - s) c2, .int .i64 0]) ∧ IsB w' w'.heap.size A1 (s - 20) ((xs.take s).drop 20) ∧ s - 20 ≤ c1 ∧ c1 ≤ maxLen ∧ OwnB w' w.heap.size (.slice A2 (n - s) c2) (xs.drop s) ∧ Below w.heap.size w w' := by
  obtain ⟨b, off, v0, rfl, hbl, hv0, hv0l, hc0⟩ := hx.byte (i := 0) (by omega)
  rw [Nat.add_zero] at hc0
  rw [hv0] at hv hs
  obtain ⟨w2, hw2⟩ : ∃ w2, w.alloc hd0C = w2 := ⟨_, rfl⟩
  have hb2 : Below w.heap.size w w2 := hw2 ▸ (Below.refl _ _).alloc (Nat.le_refl _) _
  have hg2 : w2.heap[w.heap.size]? = some (.cells #[.int .i64 0, .int .i64 0, .bool false, .bool false, .int .i64 0, .int .i64 0, .int .i64 0, .bool false, .int .u64 0, .int .u64 0, .bool false, .int .u64 0, .int .u64 0, .slice none 0 0] 106 (0, 0)) := hw2 ▸ blk_new _ _ _
  have hlt2 : w.heap.size < w2.heap.size := by rw [← hw2]; simp
  have hx2 : IsB w2 w2.heap.size (some ⟨b, off, none⟩) n xs := hx.on hb2
  have hd2 : w2.cell? ⟨b, off, none⟩ = some (.int .u8 (v0 : Nat)) := by rw [← hw2]; exact (((Below.refl _ _).alloc (Nat.le_refl _) _).cell hbl).trans hc0
  clear hc0
  unfold hd0C hdC at hw2
  have i0 : 0 < n := by omega
  have k0 : (0 : Int) < (n : Int) := by omega
  have hb : (((v0 : Int) / 16) != 4) = false := by rw [bne_eq_false_iff_eq]; omega
  have e0 : bits .and .u8 (v0 : Int) 15 = ((v0 % 16 : Nat) : Int) := by rw [u8_and15 (v0 : Int) (by omega) (by omega)]; omega
  obtain ⟨r, hr⟩ : ∃ r, v0 % 16 = r := ⟨_, rfl⟩
  rw [hr] at e0
  have e1 : (r : Int) * 4 = (s : Int) := by omega
  have hs60 : s ≤ 60 := by omega
  have t1 : ¬ (s : Int) < 20 := by omega
  have t2 : ¬ (n : Int) < (s : Int) := by omega
  obtain ⟨A5, hA5⟩ : ∃ A5, (if c = s then some (⟨b, off, none⟩ : Addr) else some ⟨b, off + s, none⟩) = A5 := ⟨_, rfl⟩
  have hx5 : IsB w2 w2.heap.size A5 (n - s) (xs.drop s) := hx2.dropAt hA5 h6 hnc
  have hlen : (xs.drop s).length = n - s := by rw [List.length_drop, hx.1]
  replace hlen := hide hlen
  replace hr := hide hr
  replace hs := hide hs
  replace hv := hide hv
  replace hv0 := hide hv0
  replace hx := hide hx
  replace hx2 := hide hx2
  replace hx5 := hide hx5
  replace hb2 := hide hb2
  replace hg2 := hide hg2
  have jac : s ≤ c := by omega
  have k0s : (0 : Int) ≤ (s : Int) := by omega
  have ksa : (s : Int) ≤ (n : Int) := by omega
  have kac : (n : Int) ≤ (c : Int) := by omega
  go_enter Try.func101, Try.ntmps101
  go_wp2_with fail
  clear hw2
  refine wp_region_L (by kernel_rfl) ?_
  refine wpE_seg 0 2 (fuel := 8) (by kernel_rfl) (fun d _ _ _ _ h => by cases d <;> exact h) (by kernel_rfl) (by kernel_rfl) ?_
  simp only [List.drop_zero, List.take_succ_cons, List.take_zero]
  iterate 2 (refine wpQE_step (fun K hK => ?_); go_simp; refine hK _ ?_; clear hK K)
  refine wpQE_nil ?_
  refine wpE_seg 3 3 (fuel := 5) (by kernel_rfl) (fun d _ _ _ _ h => by cases d <;> exact h) (by kernel_rfl) (by kernel_rfl) ?_
  simp only [List.drop_succ_cons, List.drop_zero, List.take_succ_cons, List.take_zero]
  iterate 3 (refine wpQE_step (fun K hK => ?_); go_simp; refine hK _ ?_; clear hK K)
  refine wpQE_nil ?_
  refine wpE_step 2 (fuel := 4) rfl (by kernel_rfl) (fun l1 K hK => ?_)
  go_simp
  go_at_call 82
  refine (raw_any _ _ _ xs s _ rfl _ (IsB.later hx2.out l1) h5 h6 hnc hnm).mono ?_
  rintro e w5 ⟨A1, c1, rfl, hown1, hb5⟩
  refine hK _ _ hb5 ?_
  clear hK K
  have hb35 : Below w2.heap.size w2 w5 := l1.hb.trans (hb5.mono l1.hb.size)
  have hx6 := hx5.out.on hb35
  replace hx6 := hide hx6
  have hown1 := hown1.weaken l1.hb.size
  refine wpE_step 6 (fuel := 3) rfl (by kernel_rfl) (fun l4 K hK => ?_)
  go_simp
  go_at_call 83
  refine (clone_any _ _ _ (xs.drop s) _ (IsB.later hx6.out l4) (by omega)).mono ?_
  rintro e w6 ⟨v, rfl, hown2, hb6⟩
  refine hK _ _ hb6 ?_
  clear hK K
  have hb56 : Below w5.heap.size w5 w6 := l4.hb.trans (hb6.mono l4.hb.size)
  have hown1 := hown1.below hb56
  have hown2 := hown2.weaken (Nat.le_trans hb35.size l4.hb.size)
  have hb36 : Below w2.heap.size w2 w6 := hb35.trans (hb56.mono hb35.size)
  obtain ⟨A2, c2, rfl, hc2, hm2, hi2⟩ := hown2.form
  rw [hlen.out] at hown2 hc2 ⊢
  clear hi2
  unfold rawV hdV
  refine wpE_end (by kernel_rfl) (fun l3 => ?_)
  have hbx : Below w2.heap.size w2 l3.w := hb36.trans (l3.hb.mono hb36.size)
  have hg5 := blk_below hbx hlt2 hg2.out
  have hcg := blk_cell hg5
  have hfg := blk_free hg5
  have hb6 : Below w.heap.size w l3.w := hb2.out.trans (hbx.mono (Nat.le_of_lt hlt2))
  have hown3 := hown1.below l3.hb
  have hown4 := hown2.below l3.hb
  have hne : ∀ A' n' c', ∀ ys : List UInt8, OwnB l3.w w2.heap.size (Value.slice A' n' c') ys → ((Value.slice A' n' c').ownBlock = none ∨ (Value.slice A' n' c').ownBlock ≠ some w.heap.size) := by
    intro A' n' c' ys ho
    rcases hob : (Value.slice A' n' c').ownBlock with _ | k
    · exact .inl rfl
    · right
      intro e
      have h1 := (ho.lt k hob).1
      cases e
      omega
  have hn3 := hne _ _ _ _ hown3
  have hn4 := hne _ _ _ _ hown4
  obtain ⟨_, hq1, hq2, _⟩ := hown3.reads
  replace hown1 := hide hown1
  replace hown2 := hide hown2
  replace hown3 := hide hown3
  replace hown4 := hide hown4
  replace hn3 := hide hn3
  replace hn4 := hide hn4
  replace hg5 := hide hg5
  replace hb6 := hide hb6
  clear hne
  refine wpT_step 7 rfl (by kernel_rfl) (fun K hK => ?_)
  go_simp
  refine hK _ _ ?_
  clear hK K
  refine wpT_step 8 rfl (by kernel_rfl) (fun K hK => ?_)
  go_simp
  refine hK _ _ ?_
  clear hK K
  refine wpT_step 9 rfl (by kernel_rfl) (fun K hK => ?_)
  go_simp
  refine hK _ _ ?_
  clear hK K
  refine wpT_done (by kernel_rfl) ?_ 0
  go_wp2
  refine bodyPost_ret (v := .tuple #[rawV xs A1 (s - 20) c1, .slice A2 (n - s) c2, .int .i64 0]) (by simp [results, Try.results101, go_sem, hcg]) rfl ⟨A1, c1, A2, c2, rfl, ?_, hq1, hq2, ?_, ?_⟩
  · refine (hown3.out.kept (row := some w.heap.size) ?_ hn3.out).reads.2.2.2
    iterate 14 refine grown_set ?_ (by rfl) _
    exact grown_refl _ _
  · refine OwnB.weaken (hown4.out.kept (row := some w.heap.size) ?_ hn4.out) (Nat.le_of_lt hlt2)
    iterate 14 refine grown_set ?_ (by rfl) _
    exact grown_refl _ _
  · iterate 14 refine below_set ?_ (by rfl) _
    exact hb6.out
/-- The same, its numbers as letters. -/
theorem quote_okL (A : Option Addr) (n c : Nat) (xs : List UInt8) (w : World) (hx : IsB w w.heap.size A n xs) (hnc : n ≤ c) (hcm : c ≤ maxLen) (hnm : n ≤ 1099511627776) (h : 20 ≤ n) (hv : (xs.getD 0 0).toNat / 16 = 4) (s : Nat) (hs : (xs.getD 0 0).toNat % 16 * 4 = s) (h5 : 20 ≤ s) (h6 : s ≤ n)
    (tos id fl ttl proto slo dlo : Nat) (e1 : (xs.getD 1 0).toNat = tos) (e2 : beN xs 4 2 = id) (e3 : beN xs 6 2 = fl) (e4 : (xs.getD 8 0).toNat = ttl) (e5 : (xs.getD 9 0).toNat = proto) (e6 : beN xs 12 4 = slo) (e7 : beN xs 16 4 = dlo) (df mf : Bool) (frag : Nat) (e8 : decide (fl / 16384 % 2 = 1) = df) (e9 : decide (fl / 8192 % 2 = 1) = mf) (e10 : fl % 8192 = frag) (n1 m1 : Nat) (e11 : s - 20 = n1) (e12 : n - s = m1) :
    Calls Try.prog 101 #[.slice A n c] w fun e w' => ∃ A1 c1 A2 c2, e = .returned (.tuple #[hdV tos id df mf frag ttl proto false 0 slo false 0 dlo A1 n1 c1, .slice A2 m1 c2, .int .i64 0]) ∧ IsB w' w'.heap.size A1 n1 ((xs.take s).drop 20) ∧ n1 ≤ c1 ∧ c1 ≤ maxLen ∧ IsB w' w'.heap.size A2 m1 (xs.drop s) ∧ Below w.heap.size w w' := by
  subst e1 e2 e3 e4 e5 e6 e7 e8 e9 e10 e11 e12
  refine (quote_ok A n c xs w hx hnc hcm hnm h hv s hs h5 h6).mono ?_
  rintro e w' ⟨A1, c1, A2, c2, rfl, i1, i2, i3, i4, i5⟩
  exact ⟨A1, c1, A2, c2, rfl, i1, i2, i3, i4.reads.2.2.2, i5⟩
end Four
end Go.Proofs.Ytfmmmjaficbchaa
/- The law's bytes of a header and what is behind it, by contract. Conditions: a header that may be, options of at most 40 bytes, at most 300 bytes behind it. -/
namespace Go.Proofs.Ytfmmmjaficbchaa
open Go.RowKit Go.ChangeShapes Go.WideShapes Go.ChangeAt Go.Deep
namespace Four
/-- A header's bytes, the check still 0. -/
def hdB0 (tos id fl ttl proto slo dlo : Nat) (os : List UInt8) (pl : Nat) : List UInt8 :=
  (((((([UInt8.ofNat (64 + (20 + os.length) / 4), UInt8.ofNat tos] ++ beB (20 + os.length + pl) 2) ++ beB id 2) ++ beB fl 2) ++ [UInt8.ofNat ttl, UInt8.ofNat proto, 0, 0]) ++ beB slo 4) ++ beB dlo 4) ++ os
theorem hdB0_length (tos id fl ttl proto slo dlo : Nat) (os : List UInt8) (pl : Nat) : (hdB0 tos id fl ttl proto slo dlo os pl).length = 20 + os.length := by
  simp [hdB0, beB_length]; omega
/-- .. with its check. -/
def hdB (tos id fl ttl proto slo dlo : Nat) (os : List UInt8) (pl : Nat) : List UInt8 :=
  setB (hdB0 tos id fl ttl proto slo dlo os pl) 10 (beB (65535 - Sum.ones (Sum.tot false (hdB0 tos id fl ttl proto slo dlo os pl))) 2)
theorem ofNat_mod (x : Nat) : UInt8.ofNat (x % 256) = UInt8.ofNat x := by
  apply UInt8.toNat_inj.1
  simp
theorem beB_four (N : Nat) : beB N 4 = beB (N / 65536) 2 ++ beB (N % 65536) 2 := by
  simp only [beB, List.cons_append, List.nil_append]
  have h1 : UInt8.ofNat (N % 65536 / 256 ^ 1) = UInt8.ofNat (N / 256 ^ 1) := by
    rw [← ofNat_mod (N % 65536 / 256 ^ 1), ← ofNat_mod (N / 256 ^ 1)]; congr 1; omega
  have h2 : UInt8.ofNat (N % 65536 / 256 ^ 0) = UInt8.ofNat (N / 256 ^ 0) := by
    rw [← ofNat_mod (N % 65536 / 256 ^ 0), ← ofNat_mod (N / 256 ^ 0)]; congr 1; omega
  rw [h1, h2]
  have h3 : N / 65536 / 256 ^ 1 = N / 256 ^ 3 := by omega
  have h4 : N / 65536 / 256 ^ 0 = N / 256 ^ 2 := by omega
  rw [h3, h4]
theorem hdB_set (tos id fl ttl proto slo dlo : Nat) (os : List UInt8) (pl C : Nat) (hC : 65535 - Sum.ones (Sum.tot false (hdB0 tos id fl ttl proto slo dlo os pl)) = C) : hdB tos id fl ttl proto slo dlo os pl = ((hdB0 tos id fl ttl proto slo dlo os pl).set 10 (UInt8.ofNat (C / 256))).set 11 (UInt8.ofNat C) := by
  unfold hdB
  rw [hC]
  simp [setB, hdB0, beB]
def flI (df mf : Bool) (frag : Nat) : Int := (frag : Int) + (if df then 16384 else 0) + (if mf then 8192 else 0)
end Four
end Go.Proofs.Ytfmmmjaficbchaa
/- udp.Right and udp.Bytes by contract, for headers with a check. Conditions: slices of bytes that read as lists, below 65536 bytes. -/
namespace Go.Proofs.Ytfmmmjaficbchaa
open Go.RowKit Go.ChangeShapes Go.WideShapes Go.ChangeAt Go.Deep
namespace Udp
/-- Whether a header may be. -/
def rightP (s d : Int) : Bool := decide (0 ≤ s ∧ s ≤ 65535 ∧ 0 ≤ d ∧ d ≤ 65535)
theorem right_any (s d : Int) (bare : Bool) (w : World) (r : Bool) (hr : rightP s d = r) :
    Calls Try.prog 70 #[.agg #[.int .i64 s, .int .i64 d, .bool bare]] w fun e w' => e = .returned (.bool r) ∧ Below w.heap.size w w' := by
  have hB : Below w.heap.size w (w.alloc (.cells #[.int .i64 s, .int .i64 d, .bool bare] 84)) := (Below.refl _ _).alloc (Nat.le_refl _) _
  unfold rightP at hr
  replace hB := hide hB
  replace hr := hide hr
  by_cases h1 : 0 ≤ s
  · by_cases h2 : s ≤ 65535
    · by_cases h3 : 0 ≤ d
      · by_cases h4 : d ≤ 65535
        · go_enter Try.func70, Try.ntmps70
          go_wp2
          go_ret
          exact ⟨by rw [← hr.out]; simp [*], hB.out⟩
        · go_enter Try.func70, Try.ntmps70
          go_wp2
          go_ret
          exact ⟨by rw [← hr.out]; simp [*], hB.out⟩
      · go_enter Try.func70, Try.ntmps70
        go_wp2
        go_ret
        exact ⟨by rw [← hr.out, decide_eq_false (by omega)]; rfl, hB.out⟩
    · go_enter Try.func70, Try.ntmps70
      go_wp2
      go_ret
      exact ⟨by rw [← hr.out, decide_eq_false (by omega)]; rfl, hB.out⟩
  · go_enter Try.func70, Try.ntmps70
    go_wp2
    go_ret
    exact ⟨by rw [← hr.out, decide_eq_false (by omega)]; rfl, hB.out⟩
theorem bytes_no (s d : Int) (A : Option Addr) (n c : Nat) (P : Option Addr) (m e : Nat) (w : World) (h : rightP s d = false) :
    Calls Try.prog 42 #[.agg #[.int .i64 s, .int .i64 d, .bool false], .slice A n c, .slice P m e] w fun e w' => e = .returned (.tuple #[.slice none 0 0, .int .i64 1]) ∧ Below w.heap.size w w' := by
  go_enter Try.func42, Try.ntmps42
  go_wp2_with fail
  refine (right_any s d false _ false h).mono ?_
  rintro e w1 ⟨rfl, hb⟩
  go_wp2_with fail
  go_ret2
  exact ⟨rfl, ((Below.refl _ _).alloc (Nat.le_refl _) _).trans (hb.mono (by simp))⟩
/-- A datagram's bytes, the check's two still 0. -/
def dg0 (s d : Nat) (xs : List UInt8) : List UInt8 := allB 2 [s, d, 8 + xs.length, 0] ++ xs
def ckP (c : Nat) : Nat := if c = 0 then 65535 else c
def dgB (ps : List UInt8) (s d : Nat) (xs : List UInt8) : List UInt8 := setB (dg0 s d xs) 6 (beB (ckP (65535 - Sum.ones (Sum.tot false (ps ++ dg0 s d xs)))) 2)
theorem dg0_length (s d : Nat) (xs : List UInt8) : (dg0 s d xs).length = 8 + xs.length := by simp [dg0, allB_length]
set_option maxRecDepth 8000 in
set_option maxHeartbeats 4000000 in
theorem bytes_yes (s d : Nat) (A : Option Addr) (n c : Nat) (P : Option Addr) (m e : Nat) (xs ps : List UInt8) (w : World) (hs : s ≤ 65535) (hd : d ≤ 65535) (hx : IsB w w.heap.size A n xs) (hp : IsB w w.heap.size P m ps) (hn : 8 + n ≤ 65535) (hm : m ≤ maxLen) :
    Calls Try.prog 42 #[.agg #[.int .i64 (s : Int), .int .i64 (d : Int), .bool false], .slice A n c, .slice P m e] w fun e w' => ∃ v, e = .returned (.tuple #[v, .int .i64 0]) ∧ OwnB w' w.heap.size v (dgB ps s d xs) ∧ Below w.heap.size w w' := by
  have hxl := hx.1
  have hR : rightP (s : Int) (d : Int) = true := by unfold rightP; rw [decide_eq_true_eq]; omega
  replace hx := hide hx
  replace hp := hide hp
  replace hxl := hide hxl
  replace hR := hide hR
  go_enter Try.func42, Try.ntmps42
  go_wp2_with fail
  refine (right_any s d false _ true hR.out).mono ?_
  rintro e w1 ⟨rfl, hb1⟩
  have hblk1 := blk_below hb1 (by simp) (blk_new w 84 #[.int .i64 (s : Int), .int .i64 (d : Int), .bool false])
  have hbw1 : Below w.heap.size w w1 := ((Below.refl _ _).alloc (Nat.le_refl _) _).trans (hb1.mono (by simp))
  have hz1 := hb1.size
  simp only [World.size_alloc] at hz1
  have hlt1 : w.heap.size < w1.heap.size := by omega
  have hcell1 := blk_cell hblk1
  replace hb1 := hide hb1
  replace hbw1 := hide hbw1
  replace hblk1 := hide hblk1
  go_wp2_with fail
  refine (all_lit w1.heap.size _ [] 2 _ rfl [s, d, 8 + n, 0] _ ?_ 4 _ rfl _ w1 _ rfl (OwnB.nil _ _) (Nat.le_refl _) (by omega) (by simp) (by omega) ?_).mono ?_
  · simp [u64v]
  · intro N hN
    simp only [List.mem_cons, List.not_mem_nil, or_false] at hN
    omega
  rintro e w2 ⟨v2, rfl, hown2, hg2⟩
  rw [List.nil_append] at hown2
  have hb2 := hg2.below (OwnB.nil _ _) (Nat.le_refl _)
  have hz2 := hb2.size
  have hblk2 := blk_below hb2 hlt1 hblk1.out
  have hcell2 := blk_cell hblk2
  have hx2 := (hx.out.on hbw1.out).on hb2
  clear hcell1 hg2
  replace hown2 := hide hown2
  replace hb2 := hide hb2
  replace hx2 := hide hx2
  replace hblk2 := hide hblk2
  go_wp2_with (at_builtin; refine wpl_src_bv rfl (.tmp 31) (.tmp 32) rfl w1.heap.size _ _ xs _ _ _ w2.heap.size rfl rfl hown2.out hx2.out ?_ ?_ ?_)
  · omega
  · simp only [allB_length, List.length_cons, List.length_nil]; omega
  intro v3 w3 hown3 hg3
  have hown3' : OwnB w3 w1.heap.size v3 (dg0 s d xs) := by rw [dg0, hxl.out]; exact hown3
  clear hown3
  obtain ⟨A3, c3, rfl, hc3, hm3, hi3⟩ := hown3'.form
  rw [dg0_length, hxl.out] at hc3 hi3 hown3' ⊢
  have hb3 := hg3.below hown2.out (by omega)
  have hz3 := hb3.size
  have hb13 : Below w1.heap.size w1 w3 := hb2.out.trans (hb3.mono (by omega))
  have hbw3 : Below w.heap.size w w3 := hbw1.out.trans (hb13.mono (by omega))
  have hblk3 := blk_below hb13 hlt1 hblk1.out
  have hcell3 := blk_cell hblk3
  have hp3 := hp.out.on hbw3
  have hps := Icmp.isP_two' w3.heap.size rfl (t := 22) (c := c3) (d := e) hi3 hp3 (by unfold maxLen; omega) hm
  have hi4 := hi3.alloc (.cells #[.slice P m e, .slice A3 (8 + n) c3] 22)
  have hle := Sum.ones_le (Sum.tot false (ps ++ dg0 s d xs))
  have hfl : Sum.flat [⟨P, e, ps⟩, ⟨A3, c3, dg0 s d xs⟩] = ps ++ dg0 s d xs := by simp [Sum.flat]
  obtain ⟨T, hT⟩ : ∃ T, 65535 - Sum.ones (Sum.tot false (ps ++ dg0 s d xs)) = T := ⟨_, rfl⟩
  rw [← hfl] at hT
  have hTl : T ≤ 65535 := by omega
  replace hps := hide hps
  replace hi3 := hide hi3
  replace hi4 := hide hi4
  replace hown3' := hide hown3'
  replace hg3 := hide hg3
  replace hb3 := hide hb3
  replace hbw3 := hide hbw3
  replace hp3 := hide hp3
  replace hfl := hide hfl
  replace hT := hide hT
  replace hblk3 := hide hblk3
  clear hcell2 hle
  go_wp2_with fail
  refine (Sum.check_any _ _ _ _ _ hps.out (by unfold maxLen; omega)).mono ?_
  rintro e w' ⟨rfl, rfl⟩
  rw [hT.out]
  have hfin : ∀ (N : Nat), ckP T = N → N ≤ 65535 → Calls Try.prog 33 #[.slice A3 (8 + n) c3, .int .i64 6, .int .u64 (N : Int), .int .i64 2] (w3.alloc (.cells #[.slice P m e, .slice A3 (8 + n) c3] 22)) fun e w' => ∃ v, e = .returned v ∧ OwnB w' w.heap.size v (dgB ps s d xs) ∧ Below w.heap.size w w' := by
    intro N hN hN2
    refine (set_in A3 (8 + n) c3 (dg0 s d xs) 6 N 2 _ _ _ rfl rfl rfl _ hi4.out (by omega) (by omega) (by omega) (by omega) (by omega)).mono ?_
    rintro e w4 ⟨v4, rfl, hown4, hb4⟩
    refine ⟨v4, rfl, ?_, (hbw3.out.alloc (by omega) _).trans (hb4.mono (by simp; omega))⟩
    have h1 := hown4.weaken (base' := w.heap.size) (by simp; omega)
    unfold dgB
    rw [← hfl.out, hT.out, hN]
    exact h1
  replace hfin := hide hfin
  by_cases hT0 : T = 0
  · have hf := hfin.out 65535 (by rw [hT0]; rfl) (by omega)
    subst hT0
    replace hf := hide hf
    go_wp2_with fail
    refine hf.out.mono ?_
    rintro e w4 ⟨v4, rfl, h4⟩
    replace h4 := hide h4
    go_wp2_with fail
    go_ret2
    exact ⟨v4, rfl, h4.out⟩
  · have hf := hfin.out T (by unfold ckP; rw [if_neg hT0]) hTl
    replace hf := hide hf
    go_wp2_with fail
    refine hf.out.mono ?_
    rintro e w4 ⟨v4, rfl, h4⟩
    replace h4 := hide h4
    go_wp2_with fail
    go_ret2
    exact ⟨v4, rfl, h4.out⟩
end Udp
end Go.Proofs.Ytfmmmjaficbchaa
