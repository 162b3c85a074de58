/- The small functions of layer 9, by contract: headers that extend one, as a slice that reads as a list. Conditions: slices that read as lists. -/
import Derived.Test.YtdmgbngdpjcliaaQPktBig4
import Derived.Test.YtdmgbngdpjcliaaQPktBig1
import Derived.Test.YtdmgbngdpjcliaaQPktBig2
import Derived.Deep.DeepCutAuto
namespace Go.Proofs.Ytdmgbngdpjcliaa
open Go.RowKit Go.ChangeShapes Go.WideShapes Go.ChangeAt Go.Deep
namespace Six
/-- A header that extends one: its kind, where its bytes lie, its bytes. -/
structure Ext where
  k : Int
  A : Option Addr
  c : Nat
  xs : List UInt8
/-- Its cells. -/
def Ext.cs (e : Ext) : List Value := [.int .i64 e.k, .slice e.A e.xs.length e.c]
def cells (es : List Ext) : List Value := es.flatMap Ext.cs
theorem cells_length (es : List Ext) : (cells es).length = es.length * 2 := by
  induction es with
  | nil => rfl
  | cons e es ih => simp only [cells, List.flatMap_cons, List.length_append, Ext.cs, List.length_cons, List.length_nil] at ih ⊢; omega
theorem cells_get (es : List Ext) : ∀ (i : Nat) (h : i < es.length), (cells es)[i * 2]? = some (.int .i64 es[i].k) ∧ (cells es)[i * 2 + 1]? = some (.slice es[i].A es[i].xs.length es[i].c) := by
  induction es with
  | nil => intro i h; simp at h
  | cons e es ih =>
    intro i h
    rcases i with _ | i
    · simp [cells, Ext.cs]
    · have h1 := ih i (by simpa using h)
      have e1 : (i + 1) * 2 = i * 2 + 2 := by omega
      have e2 : (i + 1) * 2 + 1 = (i * 2 + 1) + 2 := by omega
      rw [e1]
      simp only [cells, List.flatMap_cons, Ext.cs, List.cons_append, List.nil_append] at h1 ⊢
      exact ⟨by simpa using h1.1, by simpa using h1.2⟩
/-- The slice reads as these, below block B. -/
def IsX (w : World) (B : Nat) (A : Option Addr) (n : Nat) (es : List Ext) : Prop :=
  es.length = n ∧ IsV w B 2 A n (cells es) ∧ ∀ e ∈ es, IsB w B e.A e.xs.length e.xs ∧ e.xs.length ≤ e.c ∧ e.c ≤ maxLen
section
variable {w w' : World} {B B' n : Nat} {A : Option Addr} {es : List Ext}
theorem IsX.nil (w : World) (B : Nat) (A : Option Addr) : IsX w B A 0 [] := ⟨rfl, IsV.nil _ _ _ _, fun _ h => by cases h⟩
theorem IsX.below (h : IsX w B A n es) (hb : Below B w w') : IsX w' B A n es := ⟨h.1, h.2.1.below hb, fun e he => ⟨(h.2.2 e he).1.below hb, (h.2.2 e he).2⟩⟩
theorem IsX.more (h : IsX w B A n es) (hB : B ≤ B') : IsX w B' A n es := ⟨h.1, h.2.1.more hB, fun e he => ⟨(h.2.2 e he).1.more hB, (h.2.2 e he).2⟩⟩
theorem IsX.on (h : IsX w w.heap.size A n es) (hb : Below w.heap.size w w') : IsX w' w'.heap.size A n es := (h.below hb).more hb.size
theorem IsX.later (h : IsX w w.heap.size A n es) (l : Later w) : IsX l.w l.w.heap.size A n es := h.on l.hb
theorem IsX.alloc (h : IsX w w.heap.size A n es) (o : Obj) : IsX (w.alloc o) (w.alloc o).heap.size A n es := h.on ((Below.refl _ _).alloc (Nat.le_refl _) o)
theorem IsX.at (h : IsX w B A n es) {i : Nat} (hi : i < n) : ∃ b off k Ae c xs, A = some ⟨b, off, none⟩ ∧ b < B ∧ es[i]? = some ⟨k, Ae, c, xs⟩ ∧ w.cell? ⟨b, off + i * 2, none⟩ = some (.int .i64 k) ∧ w.cell? ⟨b, off + i * 2 + 1, none⟩ = some (.slice Ae xs.length c) ∧ IsB w B Ae xs.length xs ∧ xs.length ≤ c ∧ c ≤ maxLen := by
  obtain ⟨hl, hv, hp⟩ := h
  obtain ⟨b, off, e, hb, hc⟩ := hv.2 (by omega)
  have hil : i < es.length := by omega
  have hg := cells_get es i hil
  have hcl := cells_length es
  refine ⟨b, off, es[i].k, es[i].A, es[i].c, es[i].xs, e, hb, by rw [List.getElem?_eq_getElem hil], ?_, ?_, hp _ (List.getElem_mem hil)⟩
  · rw [hc (i * 2) (by omega)]
    rw [List.getElem?_eq_getElem (by omega)] at hg
    exact hg.1
  · rw [Nat.add_assoc, hc (i * 2 + 1) (by omega)]
    have h2 := hg.2
    rw [List.getElem?_eq_getElem (by omega)] at h2
    exact h2
end
/-- Does a kind extend? -/
def isB (k : Int) : Bool := decide (k = 0 ∨ k = 43 ∨ k = 44 ∨ k = 60)
theorem is_any (k : Int) (w : World) : Calls Try.prog 74 #[.int .i64 k] w fun e w' => e = .returned (.bool (isB k)) ∧ w = w' := by
  by_cases h0 : k = 0
  · subst h0
    go_enter Try.func74, Try.ntmps74
    go_wp2_with fail
    go_ret
    exact ⟨rfl, rfl⟩
  by_cases h1 : k = 43
  · subst h1
    go_enter Try.func74, Try.ntmps74
    go_wp2_with fail
    go_ret
    exact ⟨rfl, rfl⟩
  by_cases h2 : k = 44
  · subst h2
    go_enter Try.func74, Try.ntmps74
    go_wp2_with fail
    go_ret
    exact ⟨rfl, rfl⟩
  have e : ∀ b : Bool, (k == 60) = b → isB k = b := by
    intro b hb
    subst hb
    unfold isB
    by_cases h3 : k = 60 <;> simp [h0, h1, h2, h3]
  have t0 : (k == 0) = false := by simp [h0]
  have t1 : (k == 43) = false := by simp [h1]
  have t2 : (k == 44) = false := by simp [h2]
  rw [e _ rfl]
  clear h0 h1 h2 e
  go_enter Try.func74, Try.ntmps74
  go_wp2_with fail
  all_goals (go_ret; exact ⟨rfl, rfl⟩)
theorem lawIs_any (k : Int) (w : World) : Calls Try.prog 42 #[.int .i64 k] w fun e w' => e = .returned (.bool (isB k)) ∧ w = w' := by
  by_cases h0 : k = 0
  · subst h0
    go_enter Try.func42, Try.ntmps42
    go_wp2_with fail
    go_ret
    exact ⟨rfl, rfl⟩
  by_cases h1 : k = 43
  · subst h1
    go_enter Try.func42, Try.ntmps42
    go_wp2_with fail
    go_ret
    exact ⟨rfl, rfl⟩
  by_cases h2 : k = 44
  · subst h2
    go_enter Try.func42, Try.ntmps42
    go_wp2_with fail
    go_ret
    exact ⟨rfl, rfl⟩
  have e : ∀ b : Bool, (k == 60) = b → isB k = b := by
    intro b hb
    subst hb
    unfold isB
    by_cases h3 : k = 60 <;> simp [h0, h1, h2, h3]
  have t0 : (k == 0) = false := by simp [h0]
  have t1 : (k == 43) = false := by simp [h1]
  have t2 : (k == 44) = false := by simp [h2]
  rw [e _ rfl]
  clear h0 h1 h2 e
  go_enter Try.func42, Try.ntmps42
  go_wp2_with fail
  all_goals (go_ret; exact ⟨rfl, rfl⟩)
/-- A header, as a value. -/
abbrev hdV (cls lab hop : Int) (sv : Bool) (shi slo : Int) (dv : Bool) (dhi dlo : Int) (X : Option Addr) (n c : Nat) (proto : Int) : Value :=
  .agg #[.int .i64 cls, .int .i64 lab, .int .i64 hop, .bool sv, .int .u64 shi, .int .u64 slo, .bool dv, .int .u64 dhi, .int .u64 dlo, .slice X n c, .int .i64 proto]
abbrev hdC (cls lab hop : Int) (sv : Bool) (shi slo : Int) (dv : Bool) (dhi dlo : Int) (X : Option Addr) (n c : Nat) (proto : Int) : Obj :=
  .cells #[.int .i64 cls, .int .i64 lab, .int .i64 hop, .bool sv, .int .u64 shi, .int .u64 slo, .bool dv, .int .u64 dhi, .int .u64 dlo, .slice X n c, .int .i64 proto] 29
/-- Is one the header of a part? -/
def Ext.isPart (e : Ext) : Bool := decide (e.k = 44 ∧ e.xs.length = 7)
def partB (es : List Ext) : List UInt8 := match es.find? Ext.isPart with | some e => e.xs | none => []
def partV (es : List Ext) : Value := match es.find? Ext.isPart with | some e => .slice e.A e.xs.length e.c | none => .slice none 0 0
theorem find_here {es : List Ext} {j : Nat} {e : Ext} (h0 : (es.take j).find? Ext.isPart = none) (hj : es[j]? = some e) (hp : e.isPart = true) : es.find? Ext.isPart = some e := by
  obtain ⟨hlt, rfl⟩ := List.getElem?_eq_some_iff.1 hj
  rw [show es.find? Ext.isPart = (es.take j ++ (es[j] :: es.drop (j + 1))).find? Ext.isPart from by rw [← List.drop_eq_getElem_cons hlt, List.take_append_drop], List.find?_append, h0]
  simp only [Option.none_or, List.find?_cons, hp]
theorem find_on {es : List Ext} {j : Nat} {e : Ext} (h0 : (es.take j).find? Ext.isPart = none) (hj : es[j]? = some e) (hp : e.isPart = false) : (es.take (j + 1)).find? Ext.isPart = none := by
  obtain ⟨hlt, rfl⟩ := List.getElem?_eq_some_iff.1 hj
  rw [List.take_succ_eq_append_getElem hlt, List.find?_append, h0]
  simp [hp]
set_option maxRecDepth 4000 in
set_option maxHeartbeats 2000000 in
theorem part_any (cls lab hop : Int) (sv : Bool) (shi slo : Int) (dv : Bool) (dhi dlo : Int) (X : Option Addr) (n c : Nat) (proto : Int) (es : List Ext) (w : World) (hx : IsX w w.heap.size X n es) (hn : n ≤ maxLen) :
    Calls Try.prog 52 #[hdV cls lab hop sv shi slo dv dhi dlo X n c proto] w fun e w' => e = .returned (partV es) ∧ Below w.heap.size w w' := by
  unfold maxLen at hn
  have hbox := blk_new w 29 #[.int .i64 cls, .int .i64 lab, .int .i64 hop, .bool sv, .int .u64 shi, .int .u64 slo, .bool dv, .int .u64 dhi, .int .u64 dlo, .slice X n c, .int .i64 proto]
  obtain ⟨w1, hw1⟩ : ∃ w1, w.alloc (hdC cls lab hop sv shi slo dv dhi dlo X n c proto) = w1 := ⟨_, rfl⟩
  have hb1 : Below w.heap.size w w1 := hw1 ▸ (Below.refl _ _).alloc (Nat.le_refl _) _
  unfold hdC at hw1
  rw [hw1] at hbox
  have hcg := blk_cell hbox
  have hx1 := hx.on hb1
  replace hx := hide hx
  replace hx1 := hide hx1
  replace hb1 := hide hb1
  replace hbox := hide hbox
  unfold hdV
  go_enter Try.func52, Try.ntmps52
  go_wp2_with fail
  clear hw1 hcg
  go_loopw [8] (fun i wr => ∃ j : Nat, j ≤ n ∧ i = .int .i64 (j : Int) ∧ (es.take j).find? Ext.isPart = none ∧ Below w1.heap.size w1 wr) (fun i _ => n - (intOf i).toNat)
  case atStart => exact ⟨0, Nat.zero_le _, rfl, rfl, Below.refl _ _⟩
  case round =>
    obtain ⟨j, hj, rfl, hf, hbr⟩ := hrel
    have hxr := hx1.out.on hbr
    replace hf := hide hf
    replace hbr := hide hbr
    by_cases hlt : j < n
    · obtain ⟨b, off, k, Ae, ce, xs, rfl, hbl, hge, hc0, hc1, hbx, hxc, hxm⟩ := hxr.at hlt
      have hji : (j : Int) < (n : Int) := by omega
      have hj0 : (0 : Int) ≤ (j : Int) := by omega
      replace hxr := hide hxr
      replace hge := hide hge
      replace hbx := hide hbx
      by_cases hp : k = 44 ∧ xs.length = 7
      · obtain ⟨rfl, h7⟩ := hp
        have h7' : ((xs.length : Int) == 7) = true := by simp; omega
        replace h7 := hide h7
        go_wp2_with fail
        go_ret
        refine ⟨?_, hb1.out.trans ((hbr.out.trans ((Below.refl _ _).alloc hbr.out.size _)).mono hb1.out.size)⟩
        unfold partV
        rw [find_here hf.out hge.out (by simp [Ext.isPart, h7.out])]
        rfl
      · have hnp : Ext.isPart ⟨k, Ae, ce, xs⟩ = false := by simp [Ext.isPart]; intro h; exact fun h2 => hp ⟨h, h2⟩
        have hfn := find_on hf.out hge.out hnp
        replace hfn := hide hfn
        replace hnp := hide hnp
        have hend : Below w1.heap.size w1 (wr.alloc (.cells #[.int .i64 k, .slice Ae xs.length ce] 73)) := hbr.out.alloc hbr.out.size _
        replace hend := hide hend
        by_cases hk : k = 44
        · have hk' : (k == 44) = true := by simp [hk]
          have h7' : ((xs.length : Int) == 7) = false := by simp; omega
          replace hk := hide hk
          clear hp
          go_wp2_with fail
          exact ⟨⟨j + 1, by omega, by go_num, hfn.out, hend.out⟩, by simp [intOf]; omega⟩
        · have hk' : (k == 44) = false := by simp [hk]
          clear hp
          go_wp2_with fail
          exact ⟨⟨j + 1, by omega, by go_num, hfn.out, hend.out⟩, by simp [intOf]; omega⟩
    · have hjn : es.take j = es := List.take_of_length_le (by have := hx.out.1; omega)
      have hji : ¬ (j : Int) < (n : Int) := by omega
      replace hxr := hide hxr
      replace hjn := hide hjn
      go_wp2_with fail
      go_ret
      refine ⟨?_, hb1.out.trans (hbr.out.mono hb1.out.size)⟩
      have h0 := hf.out
      rw [hjn.out] at h0
      unfold partV
      rw [h0]
      rfl
theorem partV_read (es : List Ext) (w : World) (B : Nat) (h : ∀ e ∈ es, IsB w B e.A e.xs.length e.xs ∧ e.xs.length ≤ e.c ∧ e.c ≤ maxLen) : ∃ A n c, partV es = .slice A n c ∧ IsB w B A n (partB es) ∧ n ≤ maxLen := by
  unfold partV partB
  rcases hf : es.find? Ext.isPart with _ | e
  · exact ⟨none, 0, 0, rfl, IsB.nil _ _ _, by unfold maxLen; omega⟩
  · have hm := h e (List.mem_of_find?_eq_some hf)
    exact ⟨e.A, _, e.c, rfl, hm.1, by omega⟩
set_option maxRecDepth 4000 in
set_option maxHeartbeats 2000000 in
theorem frag_any (cls lab hop : Int) (sv : Bool) (shi slo : Int) (dv : Bool) (dhi dlo : Int) (X : Option Addr) (n c : Nat) (proto : Int) (es : List Ext) (w : World) (hx : IsX w w.heap.size X n es) (hn : n ≤ maxLen) :
    Calls Try.prog 26 #[hdV cls lab hop sv shi slo dv dhi dlo X n c proto] w fun e w' => e = .returned (.int .i64 ((beN (partB es) 1 2 / 8 : Nat) : Int)) ∧ Below w.heap.size w w' := by
  have hx1 := hx.alloc (hdC cls lab hop sv shi slo dv dhi dlo X n c proto)
  unfold hdC at hx1
  obtain ⟨v, hv⟩ : ∃ v, beN (partB es) 1 2 = v := ⟨_, rfl⟩
  have hvl : v < 65536 := by rw [← hv]; exact beN_lt _ 1 2
  have hres : Ending.returned (.int .i64 ((v : Int) / 8)) = .returned (.int .i64 ((beN (partB es) 1 2 / 8 : Nat) : Int)) := by rw [hv]; exact ret_int (by omega)
  replace hx := hide hx
  replace hx1 := hide hx1
  replace hv := hide hv
  replace hres := hide hres
  unfold hdV
  go_enter Try.func26, Try.ntmps26
  go_wp2_with fail
  refine (part_any cls lab hop sv shi slo dv dhi dlo X n c proto es _ hx1.out hn).mono ?_
  rintro e w1 ⟨rfl, hb1⟩
  have hbw := ((Below.refl w.heap.size w).alloc (Nat.le_refl _) (hdC cls lab hop sv shi slo dv dhi dlo X n c proto)).trans (hb1.mono (by simp))
  obtain ⟨A', n', c', hpv, hpr, hpn⟩ := partV_read es w1 w1.heap.size (hx1.out.on hb1).2.2
  rw [hpv]
  clear hpv hb1
  replace hbw := hide hbw
  replace hpr := hide hpr
  go_wp2_with fail
  refine (Octet.at_lit _ _ 1 2 rfl rfl _ _ _ (partB es) _ hpr.out hpn (by omega) (by omega)).mono ?_
  rintro e w' ⟨rfl, rfl⟩
  rw [hv.out]
  go_wp2_with fail
  go_ret
  exact ⟨hres.out, hbw.out⟩
end Six
end Go.Proofs.Ytdmgbngdpjcliaa
/- four.raw: the header that bytes are, by contract. Conditions: slices of bytes that read as lists, a header's length that lies within. -/
namespace Go.Proofs.Ytdmgbngdpjcliaa
open Go.RowKit Go.ChangeShapes Go.WideShapes Go.ChangeAt Go.Deep
theorem below_set {n : Nat} {a b : World} (h : Below n a b) {p : Addr} (hp : p.block = n) (u : Value) : Below n a (b.setCell p u) := h.setCell (Nat.le_of_eq hp.symm) u
namespace Four
/-- The header that bytes are. -/
abbrev rawV (xs : List UInt8) (A : Option Addr) (n c : Nat) : Value :=
  hdV ((xs.getD 1 0).toNat : Nat) (beN xs 4 2 : Nat) (decide (beN xs 6 2 / 16384 % 2 = 1)) (decide (beN xs 6 2 / 8192 % 2 = 1)) (beN xs 6 2 % 8192 : Nat) ((xs.getD 8 0).toNat : Nat) ((xs.getD 9 0).toNat : Nat)
    false 0 (beN xs 12 4 : Nat) false 0 (beN xs 16 4 : Nat) A n c
set_option maxRecDepth 4000 in
set_option maxHeartbeats 4000000 in
theorem raw_any (A : Option Addr) (n c : Nat) (xs : List UInt8) (size : Nat) (si : Int) (hsi : si = (size : Int)) (w : World) (hx : IsB w w.heap.size A n xs) (h20 : 20 ≤ size) (hsn : size ≤ n) (hnc : n ≤ c) (hnm : n ≤ 1099511627776) :
    Calls Try.prog 54 #[.slice A n c, .int .i64 si] w fun e w' => ∃ A' c', e = .returned (rawV xs A' (size - 20) c') ∧ OwnB w' w.heap.size (.slice A' (size - 20) c') ((xs.take size).drop 20) ∧ Below w.heap.size w w' := by
  subst hsi
  obtain ⟨b, off, v1, rfl, hbl, hv1, hv1l, hc1⟩ := hx.byte (i := 1) (by omega)
  obtain ⟨v8, hv8, hv8l, hc8⟩ := hx.byteAt (i := 8) (by omega)
  obtain ⟨v9, hv9, hv9l, hc9⟩ := hx.byteAt (i := 9) (by omega)
  obtain ⟨fl, hfl⟩ : ∃ k, beN xs 6 2 = k := ⟨_, rfl⟩
  obtain ⟨idn, hid⟩ : ∃ k, beN xs 4 2 = k := ⟨_, rfl⟩
  obtain ⟨sn, hsn'⟩ : ∃ k, beN xs 12 4 = k := ⟨_, rfl⟩
  obtain ⟨dn, hdn⟩ : ∃ k, beN xs 16 4 = k := ⟨_, rfl⟩
  have hflt : fl < 65536 := by rw [← hfl]; exact beN_lt xs 6 2
  have hidt : idn < 65536 := by rw [← hid]; exact beN_lt xs 4 2
  have hsnt : sn < 4294967296 := by rw [← hsn']; exact beN_lt xs 12 4
  have hdnt : dn < 4294967296 := by rw [← hdn]; exact beN_lt xs 16 4
  obtain ⟨w2, hw2⟩ : ∃ w2, w.alloc (hdC 0 0 false false 0 0 0 false 0 0 false 0 0 none 0 0) = w2 := ⟨_, rfl⟩
  have hb2 : Below w.heap.size w w2 := hw2 ▸ (Below.refl _ _).alloc (Nat.le_refl _) _
  have hg2 : w2.heap[w.heap.size]? = some (hdC 0 0 false false 0 0 0 false 0 0 false 0 0 none 0 0 |> fun | .cells a t => .cells a t (0, 0) | o => o) := hw2 ▸ blk_new _ _ _
  have hlt2 : w.heap.size < w2.heap.size := by rw [← hw2]; simp
  have hx2 : IsB w2 w2.heap.size (some ⟨b, off, none⟩) n xs := hx.on hb2
  have hd1 : ∀ l : Later w2, l.w.cell? ⟨b, off + 1, none⟩ = some (.int .u8 (v1 : Nat)) := fun l => l.cell (by rw [← hw2]; exact (((Below.refl _ _).alloc (Nat.le_refl _) _).cell hbl).trans hc1)
  have hd8 : ∀ l : Later w2, l.w.cell? ⟨b, off + 8, none⟩ = some (.int .u8 (v8 : Nat)) := fun l => l.cell (by rw [← hw2]; exact (((Below.refl _ _).alloc (Nat.le_refl _) _).cell hbl).trans hc8)
  have hd9 : ∀ l : Later w2, l.w.cell? ⟨b, off + 9, none⟩ = some (.int .u8 (v9 : Nat)) := fun l => l.cell (by rw [← hw2]; exact (((Below.refl _ _).alloc (Nat.le_refl _) _).cell hbl).trans hc9)
  clear hc1 hc8 hc9
  obtain ⟨A20, hA20⟩ : ∃ A20, (if c = 20 then some (⟨b, off, none⟩ : Addr) else some ⟨b, off + 20, none⟩) = A20 := ⟨_, rfl⟩
  have hx20 : IsB w2 w2.heap.size A20 (size - 20) ((xs.take size).drop 20) := by
    have h8 := hx2.cut (k := 20) (m := size) (cap := c) h20 hsn hnc
    rw [← hA20]
    exact h8
  unfold hdC at hw2 hg2
  replace hx := hide hx
  replace hx2 := hide hx2
  replace hx20 := hide hx20
  replace hb2 := hide hb2
  replace hg2 := hide hg2
  replace hv1 := hide hv1
  replace hv8 := hide hv8
  replace hv9 := hide hv9
  replace hfl := hide hfl
  replace hid := hide hid
  replace hsn' := hide hsn'
  replace hdn := hide hdn
  go_enter Try.func54, Try.ntmps54
  go_wp2_with fail
  refine (Octet.at_lit _ _ 6 2 rfl rfl _ _ _ xs _ hx2.out (by unfold maxLen; omega) (by omega) (by omega)).mono ?_
  rintro e w' ⟨rfl, rfl⟩
  rw [hfl.out]
  clear hw2
  have i1 : 1 < n := by omega
  have i8 : 8 < n := by omega
  have i9 : 9 < n := by omega
  have k1 : (1 : Int) < (n : Int) := by omega
  have k8 : (8 : Int) < (n : Int) := by omega
  have k9 : (9 : Int) < (n : Int) := by omega
  have k20 : (20 : Int) ≤ (size : Int) := by omega
  have ksn : (size : Int) ≤ (n : Int) := by omega
  have jsc : size ≤ c := by omega
  go_wp2_with fail
  refine wp_region_L (by kernel_rfl) ?_
  refine wpE_seg 0 36 (fuel := 3) (by kernel_rfl) (fun d _ _ _ _ h => by cases d <;> exact h) (by kernel_rfl) (by kernel_rfl) ?_
  simp only [List.drop_zero, List.take_succ_cons, List.take_zero]
  iterate 5 (refine wpQE_step (fun K hK => ?_); go_simp; (try go_bits); refine hK _ ?_; clear hK K)
  (refine wpQE_step (fun K hK => ?_); go_simp; apply Exists.intro; refine ⟨fun l => ?_, hK _ ?_⟩; (go_at_call 39; refine (Octet.at_lit _ _ 4 2 rfl rfl _ _ _ xs _ (IsB.later hx2.out l) (by unfold maxLen; omega) (by omega) (by omega)).mono ?_; rw [hid.out]; rintro e w' ⟨rfl, rfl⟩; exact ⟨rfl, lt_refl _⟩); clear hK K)
  iterate 20 (refine wpQE_step (fun K hK => ?_); go_simp; (try go_bits); refine hK _ ?_; clear hK K)
  (refine wpQE_step (fun K hK => ?_); go_simp; apply Exists.intro; refine ⟨fun l => ?_, hK _ ?_⟩; (go_at_call 39; refine (Octet.at_lit _ _ 12 4 rfl rfl _ _ _ xs _ (IsB.later hx2.out l) (by unfold maxLen; omega) (by omega) (by omega)).mono ?_; rw [hsn'.out]; rintro e w' ⟨rfl, rfl⟩; exact ⟨rfl, lt_refl _⟩); clear hK K)
  iterate 1 (refine wpQE_step (fun K hK => ?_); go_simp; (try go_bits); refine hK _ ?_; clear hK K)
  (refine wpQE_step (fun K hK => ?_); go_simp; apply Exists.intro; refine ⟨fun l => ?_, hK _ ?_⟩; (go_at_call 48; refine (v4_any _ _ (by omega) (by omega)).mono ?_; rintro e w' ⟨rfl, hb⟩; exact ⟨rfl, hb⟩); clear hK K)
  iterate 1 (refine wpQE_step (fun K hK => ?_); go_simp; (try go_bits); refine hK _ ?_; clear hK K)
  (refine wpQE_step (fun K hK => ?_); go_simp; apply Exists.intro; refine ⟨fun l => ?_, hK _ ?_⟩; (go_at_call 39; refine (Octet.at_lit _ _ 16 4 rfl rfl _ _ _ xs _ (IsB.later hx2.out l) (by unfold maxLen; omega) (by omega) (by omega)).mono ?_; rw [hdn.out]; rintro e w' ⟨rfl, rfl⟩; exact ⟨rfl, lt_refl _⟩); clear hK K)
  iterate 1 (refine wpQE_step (fun K hK => ?_); go_simp; (try go_bits); refine hK _ ?_; clear hK K)
  (refine wpQE_step (fun K hK => ?_); go_simp; apply Exists.intro; refine ⟨fun l => ?_, hK _ ?_⟩; (go_at_call 48; refine (v4_any _ _ (by omega) (by omega)).mono ?_; rintro e w' ⟨rfl, hb⟩; exact ⟨rfl, hb⟩); clear hK K)
  iterate 3 (refine wpQE_step (fun K hK => ?_); go_simp; (try go_bits); refine hK _ ?_; clear hK K)
  refine wpQE_nil ?_
  refine wpE_step 36 (fuel := 2) rfl (by kernel_rfl) (fun l K hK => ?_)
  go_simp
  go_at_call 55
  refine (clone_any _ _ _ ((xs.take size).drop 20) _ ?_ (by omega)).mono ?_
  · exact IsB.later hx20.out l
  rintro e w3 ⟨v, rfl, hown, hb3⟩
  refine hK _ _ hb3 ?_
  clear hK K
  have hlen : ((xs.take size).drop 20).length = size - 20 := by rw [List.length_drop, List.length_take, hx.out.1]; omega
  obtain ⟨A', c', rfl, hc', hm', hi'⟩ := hown.form
  rw [hlen] at hc' hown ⊢
  replace hlen := hide hlen
  refine wpE_seg 37 1 (fuel := 1) (by kernel_rfl) (fun d _ _ _ _ h => by cases d <;> exact h) (by kernel_rfl) (by kernel_rfl) ?_
  simp only [List.drop_succ_cons, List.drop_zero, List.take_succ_cons, List.take_zero]
  iterate 1 (refine wpQE_step (fun K hK => ?_); go_simp; refine hK _ ?_; clear hK K)
  refine wpQE_nil ?_
  refine wpE_end (by kernel_rfl) (fun l2 => ?_)
  have hg3 : l2.w.heap[w.heap.size]? = _ := blk_below l2.hb (Nat.lt_of_lt_of_le hlt2 (Nat.le_trans l.hb.size hb3.size)) (blk_below hb3 (Nat.lt_of_lt_of_le hlt2 l.hb.size) (blk_below l.hb hlt2 hg2.out))
  have hcg := blk_cell hg3
  have hfg := blk_free hg3
  have hb4 : Below w.heap.size w l2.w := ((hb2.out.trans (l.hb.mono (by omega))).trans (hb3.mono (Nat.le_trans (Nat.le_of_lt hlt2) l.hb.size))).trans (l2.hb.mono (Nat.le_trans (Nat.le_of_lt hlt2) (Nat.le_trans l.hb.size hb3.size)))
  replace hg3 := hide hg3
  replace hb4 := hide hb4
  refine wpT_step 38 rfl (by kernel_rfl) (fun K hK => ?_)
  go_simp
  refine hK _ _ ?_
  clear hK K
  refine wpT_done (by kernel_rfl) ?_ 0
  have e1 := i64_and1 ((fl : Int) / 16384) (by omega) (by omega)
  have e2 := i64_and1 ((fl : Int) / 8192) (by omega) (by omega)
  have e3 := i64_and8191 (fl : Int) (by omega) (by omega)
  have d1 : (((fl : Int) / 16384 % 2) == 1) = decide (fl / 16384 % 2 = 1) := beq_nat (fl / 16384 % 2) 1
  have d2 : (((fl : Int) / 8192 % 2) == 1) = decide (fl / 8192 % 2 = 1) := beq_nat (fl / 8192 % 2) 1
  rw [e1, e2, e3, d1, d2]
  go_wp2
  have hown4 := hown.below l2.hb
  have hne : (Value.slice A' (size - 20) c').ownBlock = none ∨ (Value.slice A' (size - 20) c').ownBlock ≠ some w.heap.size := by
    rcases hob : (Value.slice A' (size - 20) c').ownBlock with _ | k
    · exact .inl rfl
    · right
      intro e
      have h1 := (hown.lt k hob).1
      have h2 := l.hb.size
      cases e
      omega
  refine bodyPost_ret (v := hdV (v1 : Nat) (idn : Nat) (decide (fl / 16384 % 2 = 1)) (decide (fl / 8192 % 2 = 1)) ((fl : Int) % 8192) (v8 : Nat) (v9 : Nat) false 0 (sn : Nat) false 0 (dn : Nat) A' (size - 20) c') (by simp [results, Try.results54, go_sem, hcg]) rfl ⟨A', c', ?_, ?_, ?_⟩
  · unfold rawV
    rw [hv1.out, hv8.out, hv9.out, hfl.out, hid.out, hsn'.out, hdn.out]
    rfl
  · refine OwnB.weaken (hown4.kept (row := some w.heap.size) ?_ hne) (Nat.le_trans (Nat.le_of_lt hlt2) l.hb.size)
    iterate 14 refine grown_set ?_ rfl _
    exact grown_refl _ _
  · iterate 14 refine below_set ?_ (by rfl) _
    exact hb4.out
end Four
end Go.Proofs.Ytdmgbngdpjcliaa
