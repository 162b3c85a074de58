/- addr.Bytes by contract. Conditions: numbers of 64 bits. -/
import Derived.Test.YtccmbnaakdffaaaDoorQPfxSorts3
import Derived.Test.YtccmbnaakdffaaaDoorQPfxSorts1
import Derived.Test.YtccmbnaakdffaaaDoorQPfxSorts2
import Derived.Test.YtccmbnaakdffaaaDoorProg
import Derived.Deep.CutBlock
import Derived.Deep.DeepCutAuto
import Derived.Shelf.LaysM
import Derived.Shelf.Small.Strs
import Derived.Shelf.Strings.Builder1
import Derived.Shelf.Strings.Builder2
import Derived.Shelf.Strings.Count
import Derived.Shelf.Strings.Cut
import Derived.Shelf.Strings.Explode
import Derived.Shelf.Strings.OnBuilder
import Derived.Shelf.Strings.RuneCount
import Derived.Shelf.Strings.Search1
import Derived.Shelf.Strings.Search2
import Derived.Shelf.Strings.Search3
import Derived.Shelf.Strings.Shaped
import Derived.Shelf.Strings.Split
import Derived.Shelf.Strings.SplitShaped
import Derived.Shelf.Unicode.Decode
import Derived.Shelf.Unicode.DecodeAny
import Derived.Shelf.Unicode.DecodeSlow
import Derived.Shelf.Utf8.RuneCount
namespace Go.Proofs.YtccmbnaakdffaaaDoor
open Go.RowKit Go.ChangeShapes Go.WideShapes Go.ChangeAt Go.Deep
set_option maxHeartbeats 2000000 in
theorem addrPut_any (base : Nat) (v : Value) (xs : List UInt8) (N k : Nat) (w : World) (hown : OwnB w base v xs) (hbase : base ≤ w.heap.size) (_hN : N < 18446744073709551616) (hk : k ≤ 8) (hl : xs.length ≤ 549755813888) :
    Calls Tryd.prog 50 #[v, .int .u64 (N : Int), .int .i64 (k : Int)] w fun e w' => ∃ v', e = .returned v' ∧ OwnB w' base v' (xs ++ beB N k) ∧ Grew w v w' v' := by
  go_enter Tryd.func50, Tryd.ntmps50
  go_wp2_with fail
  go_loopw [0, 7] (fun u i wr => ∃ (j : Nat) (pre : List UInt8), j ≤ k ∧ i = .int .i64 ((j : Int) - 1) ∧ pre ++ beB N j = beB N k ∧ OwnB wr base u (xs ++ pre) ∧ Grew w v wr u) (fun _ i _ => (intOf i + 1).toNat)
  case atStart => exact ⟨k, [], Nat.le_refl _, rfl, rfl, by simpa using hown, Grew.refl _ _⟩
  case round =>
    obtain ⟨j, pre, hj, rfl, hpre, hu, hg⟩ := hrel
    have hpl : pre.length ≤ 8 := by
      have := congrArg List.length hpre
      rw [List.length_append, beB_length, beB_length] at this
      omega
    replace hpre := hide hpre
    replace hu := hide hu
    replace hg := hide hg
    rcases j with _ | i
    · go_wp2_with fail
      go_ret
      have h1 := hpre.out
      simp only [beB, List.append_nil] at h1
      exact ⟨_, rfl, h1 ▸ hu.out, hg.out⟩
    · have e1 : (((i + 1 : Nat) : Int) - 1) = (i : Int) := by omega
      rw [e1]
      have hps := pow_shift i (by omega)
      go_wp2_with (at_builtin; refine wpl_lit_bv rfl (.tmp 14) (.tmp 20) rfl base _ (xs ++ pre) [UInt8.ofNat (N / 256 ^ i)] 1 1 rfl rfl ?_ rfl ?_ ?_ ?_ ?_)
      · rw [List.map_cons, List.map_nil, ← u8v_mod]
        congr 3
        rw [Int.pow_mul]
        simp
      · exact hu.out
      · have := hg.out.grown.size
        omega
      · rw [List.length_append]; omega
      intro v' w' hown' hg'
      go_wp2_with fail
      refine ⟨⟨i, pre ++ [UInt8.ofNat (N / 256 ^ i)], by omega, by go_num, ?_, ?_, hg.out.trans hg'⟩, by simp [intOf] <;> omega⟩
      · have h1 := hpre.out
        simp only [beB] at h1
        rw [← h1]; simp
      · simpa using hown'
theorem addrPut_lit (Ni ki : Int) (N k : Nat) (hNi : Ni = (N : Int)) (hki : ki = (k : Int)) (base : Nat) (v : Value) (xs : List UInt8) (w : World) (hown : OwnB w base v xs) (hbase : base ≤ w.heap.size) (hN : N < 18446744073709551616) (hk : k ≤ 8) (hl : xs.length ≤ 549755813888) :
    Calls Tryd.prog 50 #[v, .int .u64 Ni, .int .i64 ki] w fun e w' => ∃ v', e = .returned v' ∧ OwnB w' base v' (xs ++ beB N k) ∧ Grew w v w' v' := by
  subst hNi hki
  exact addrPut_any base v xs N k w hown hbase hN hk hl
/-- An address's bytes. -/
def addrB (v6 : Bool) (hi lo : Nat) : List UInt8 := if v6 then beB hi 8 ++ beB lo 8 else beB lo 4
theorem addrB_length (v6 : Bool) (hi lo : Nat) : (addrB v6 hi lo).length ≤ 16 := by
  unfold addrB
  split <;> simp [beB_length]
set_option maxHeartbeats 2000000 in
theorem addrBytes_any (v6 : Bool) (hi lo : Nat) (w : World) (h1 : hi < 18446744073709551616) (h2 : lo < 18446744073709551616) :
    Calls Tryd.prog 21 #[addrV v6 hi lo] w fun e w' => ∃ v, e = .returned v ∧ OwnB w' w.heap.size v (addrB v6 hi lo) ∧ Below w.heap.size w w' := by
  have hbox := blk_new w 24 #[.bool v6, .int .u64 hi, .int .u64 lo]
  obtain ⟨w1, hw1⟩ : ∃ w1, w.alloc (.cells #[.bool v6, .int .u64 hi, .int .u64 lo] 24) = w1 := ⟨_, rfl⟩
  have hb1 : Below w.heap.size w w1 := hw1 ▸ (Below.refl _ _).alloc (Nat.le_refl _) _
  have hlt : w.heap.size < w1.heap.size := by rw [← hw1]; simp
  rw [hw1] at hbox
  have hcg := blk_cell hbox
  replace hb1 := hide hb1
  replace hbox := hide hbox
  rcases v6 with _ | _
  · unfold addrV
    go_enter Tryd.func21, Tryd.ntmps21
    go_wp2_with fail
    refine (addrPut_lit _ _ lo 4 rfl rfl w1.heap.size _ [] _ (OwnB.nil _ _) (Nat.le_refl _) h2 (by omega) (by simp)).mono ?_
    rintro e w2 ⟨v2, rfl, hown, hg⟩
    have hb2 := hg.belowNil
    replace hown := hide hown
    replace hb2 := hide hb2
    clear hg
    go_wp2_with fail
    go_ret
    exact ⟨_, rfl, by simpa [addrB] using hown.out.weaken (Nat.le_of_lt hlt), hb1.out.trans (hb2.out.mono (Nat.le_of_lt hlt))⟩
  · unfold addrV
    have hcl : ∀ (l : Later w1) (o : Nat), l.w.cell? ⟨w.heap.size, o, none⟩ = _ := fun l o => blk_cell (blk_below l.hb hlt hbox.out) o
    go_enter Tryd.func21, Tryd.ntmps21
    go_wp2_with fail
    clear hw1
    refine wp_region_L (by kernel_rfl) ?_
    refine wpE_seg 0 2 (fuel := 5) (by kernel_rfl) (fun d _ _ _ _ h => by cases d <;> exact h) (by kernel_rfl) (by kernel_rfl) ?_
    simp only [List.drop_zero, List.take_succ_cons, List.take_zero]
    iterate 2 (refine wpQE_step (fun K hK => ?_); go_simp; refine hK _ ?_; clear hK K)
    refine wpQE_nil ?_
    refine wpE_seg 3 2 (fuel := 3) (by kernel_rfl) (fun d _ _ _ _ h => by cases d <;> exact h) (by kernel_rfl) (by kernel_rfl) ?_
    simp only [List.drop_succ_cons, List.drop_zero, List.take_succ_cons, List.take_zero]
    iterate 2 (refine wpQE_step (fun K hK => ?_); go_simp; refine hK _ ?_; clear hK K)
    refine wpQE_nil ?_
    clear hcl
    refine wpE_step 2 (fuel := 2) rfl (by kernel_rfl) (fun l K hK => ?_)
    go_simp
    go_at_call 50
    refine (addrPut_lit _ _ hi 8 rfl rfl l.w.heap.size _ [] _ (OwnB.nil _ _) (Nat.le_refl _) h1 (by omega) (by simp)).mono ?_
    rintro e w2 ⟨v2, rfl, hown, hg⟩
    have hb2 := hg.belowNil
    clear hg
    refine hK _ _ hb2 ?_
    clear hK K
    refine wpE_end (by kernel_rfl) (fun l2 => ?_)
    have hown2 := hown.below l2.hb
    have hb3 : Below w1.heap.size w1 l2.w := (l.hb.trans (hb2.mono l.hb.size)).trans (l2.hb.mono (Nat.le_trans l.hb.size hb2.size))
    refine wpT_step 5 rfl (by kernel_rfl) (fun K hK => ?_)
    go_simp
    go_at_call 50
    refine (addrPut_lit _ _ lo 8 rfl rfl l.w.heap.size _ _ _ hown2 (Nat.le_trans hb2.size l2.hb.size) h2 (by omega) (by simp [beB_length])).mono ?_
    rintro e w4 ⟨v4, rfl, hown4, hg4⟩
    have hb4 := hg4.below hown2 (Nat.le_trans hb2.size l2.hb.size)
    refine hK _ _ ?_
    clear hK K
    refine wpT_step 6 rfl (by kernel_rfl) (fun K hK => ?_)
    go_simp
    refine hK _ _ ?_
    clear hK K
    refine wpT_done (by kernel_rfl) ?_ 0
    have hbf := hb1.out.trans ((hb3.trans (hb4.mono l.hb.size)).mono (Nat.le_of_lt hlt))
    have hof := hown4.weaken (Nat.le_trans (Nat.le_of_lt hlt) l.hb.size)
    clear hown hown2 hg4 hb4 hown4 hb2 hb3
    replace hbf := hide hbf
    replace hof := hide hof
    go_wp2_with fail
    go_ret
    exact ⟨_, rfl, by simpa [addrB] using hof.out, hbf.out⟩
end Go.Proofs.YtccmbnaakdffaaaDoor
/- icmp.Parse and what its statement's text uses, by contract. Conditions: slices of bytes that read as lists. -/
namespace Go.Proofs.YtccmbnaakdffaaaDoor
open Go.RowKit Go.ChangeShapes Go.WideShapes Go.ChangeAt Go.Deep
namespace Icmp
/-- What a message is that bytes of 8 at least are. -/
def msgV (xs : List UInt8) (A : Option Addr) (m c : Nat) : Value := .agg #[.int .i64 ((xs.getD 0 0).toNat : Nat), .int .i64 ((xs.getD 1 0).toNat : Nat), .int .u32 (beN xs 4 4 : Nat), .slice A m c]
def msg0 : Value := .agg #[.int .i64 0, .int .i64 0, .int .u32 0, .slice none 0 0]
theorem isP_two {w : World} (b : Nat) (hb : w.heap.size = b) {t : TypeId} {A P : Option Addr} {n c m d : Nat} {xs ps : List UInt8} (hx : IsB w w.heap.size A n xs) (hp : IsB w w.heap.size P m ps) (hn : n ≤ maxLen) (hm : m ≤ maxLen) :
    Sum.IsP (w.alloc (.cells #[.slice P m d, .slice A n c] t)) (w.alloc (.cells #[.slice P m d, .slice A n c] t)).heap.size (some ⟨b, 0, none⟩) 2 [⟨P, d, ps⟩, ⟨A, c, xs⟩] := by
  have e1 := hx.1
  have e2 := hp.1
  subst e1 e2 hb
  refine ⟨rfl, fun _ => ⟨w.heap.size, 0, rfl, by simp, fun i hi => ?_⟩, fun p hmem => ?_⟩
  · rw [blk_cell (blk_new _ _ _) (0 + i)]
    have hi' : i = 0 ∨ i = 1 := by simp at hi; omega
    rcases hi' with rfl | rfl <;> rfl
  · simp only [List.mem_cons, List.not_mem_nil, or_false] at hmem
    rcases hmem with rfl | rfl
    · exact ⟨hp.alloc _, hm⟩
    · exact ⟨hx.alloc _, hn⟩
end Icmp
end Go.Proofs.YtccmbnaakdffaaaDoor
/- The small functions of layer 9, by contract: headers that extend one, as a slice that reads as a list. Conditions: slices that read as lists. -/
namespace Go.Proofs.YtccmbnaakdffaaaDoor
open Go.RowKit Go.ChangeShapes Go.WideShapes Go.ChangeAt Go.Deep
namespace Six
/-- A header that extends one: its kind, where its bytes lie, its bytes. -/
structure Ext where
  k : Int
  A : Option Addr
  c : Nat
  xs : List UInt8
/-- Its cells. -/
def Ext.cs (e : Ext) : List Value := [.int .i64 e.k, .slice e.A e.xs.length e.c]
def cells (es : List Ext) : List Value := es.flatMap Ext.cs
theorem cells_length (es : List Ext) : (cells es).length = es.length * 2 := by
  induction es with
  | nil => rfl
  | cons e es ih => simp only [cells, List.flatMap_cons, List.length_append, Ext.cs, List.length_cons, List.length_nil] at ih ⊢; omega
theorem cells_get (es : List Ext) : ∀ (i : Nat) (h : i < es.length), (cells es)[i * 2]? = some (.int .i64 es[i].k) ∧ (cells es)[i * 2 + 1]? = some (.slice es[i].A es[i].xs.length es[i].c) := by
  induction es with
  | nil => intro i h; simp at h
  | cons e es ih =>
    intro i h
    rcases i with _ | i
    · simp [cells, Ext.cs]
    · have h1 := ih i (by simpa using h)
      have e1 : (i + 1) * 2 = i * 2 + 2 := by omega
      have e2 : (i + 1) * 2 + 1 = (i * 2 + 1) + 2 := by omega
      rw [e1]
      simp only [cells, List.flatMap_cons, Ext.cs, List.cons_append, List.nil_append] at h1 ⊢
      exact ⟨by simpa using h1.1, by simpa using h1.2⟩
/-- The slice reads as these, below block B. -/
def IsX (w : World) (B : Nat) (A : Option Addr) (n : Nat) (es : List Ext) : Prop :=
  es.length = n ∧ IsV w B 2 A n (cells es) ∧ ∀ e ∈ es, IsB w B e.A e.xs.length e.xs ∧ e.xs.length ≤ e.c ∧ e.c ≤ maxLen
section
variable {w w' : World} {B B' n : Nat} {A : Option Addr} {es : List Ext}
theorem IsX.nil (w : World) (B : Nat) (A : Option Addr) : IsX w B A 0 [] := ⟨rfl, IsV.nil _ _ _ _, fun _ h => by cases h⟩
theorem IsX.below (h : IsX w B A n es) (hb : Below B w w') : IsX w' B A n es := ⟨h.1, h.2.1.below hb, fun e he => ⟨(h.2.2 e he).1.below hb, (h.2.2 e he).2⟩⟩
theorem IsX.more (h : IsX w B A n es) (hB : B ≤ B') : IsX w B' A n es := ⟨h.1, h.2.1.more hB, fun e he => ⟨(h.2.2 e he).1.more hB, (h.2.2 e he).2⟩⟩
theorem IsX.on (h : IsX w w.heap.size A n es) (hb : Below w.heap.size w w') : IsX w' w'.heap.size A n es := (h.below hb).more hb.size
theorem IsX.later (h : IsX w w.heap.size A n es) (l : Later w) : IsX l.w l.w.heap.size A n es := h.on l.hb
theorem IsX.alloc (h : IsX w w.heap.size A n es) (o : Obj) : IsX (w.alloc o) (w.alloc o).heap.size A n es := h.on ((Below.refl _ _).alloc (Nat.le_refl _) o)
theorem IsX.at (h : IsX w B A n es) {i : Nat} (hi : i < n) : ∃ b off k Ae c xs, A = some ⟨b, off, none⟩ ∧ b < B ∧ es[i]? = some ⟨k, Ae, c, xs⟩ ∧ w.cell? ⟨b, off + i * 2, none⟩ = some (.int .i64 k) ∧ w.cell? ⟨b, off + i * 2 + 1, none⟩ = some (.slice Ae xs.length c) ∧ IsB w B Ae xs.length xs ∧ xs.length ≤ c ∧ c ≤ maxLen := by
  obtain ⟨hl, hv, hp⟩ := h
  obtain ⟨b, off, e, hb, hc⟩ := hv.2 (by omega)
  have hil : i < es.length := by omega
  have hg := cells_get es i hil
  have hcl := cells_length es
  refine ⟨b, off, es[i].k, es[i].A, es[i].c, es[i].xs, e, hb, by rw [List.getElem?_eq_getElem hil], ?_, ?_, hp _ (List.getElem_mem hil)⟩
  · rw [hc (i * 2) (by omega)]
    rw [List.getElem?_eq_getElem (by omega)] at hg
    exact hg.1
  · rw [Nat.add_assoc, hc (i * 2 + 1) (by omega)]
    have h2 := hg.2
    rw [List.getElem?_eq_getElem (by omega)] at h2
    exact h2
end
/-- Does a kind extend? -/
def isB (k : Int) : Bool := decide (k = 0 ∨ k = 43 ∨ k = 44 ∨ k = 60)
/-- A header, as a value. -/
abbrev hdV (cls lab hop : Int) (sv : Bool) (shi slo : Int) (dv : Bool) (dhi dlo : Int) (X : Option Addr) (n c : Nat) (proto : Int) : Value :=
  .agg #[.int .i64 cls, .int .i64 lab, .int .i64 hop, .bool sv, .int .u64 shi, .int .u64 slo, .bool dv, .int .u64 dhi, .int .u64 dlo, .slice X n c, .int .i64 proto]
/-- Is one the header of a part? -/
def Ext.isPart (e : Ext) : Bool := decide (e.k = 44 ∧ e.xs.length = 7)
def partB (es : List Ext) : List UInt8 := match es.find? Ext.isPart with | some e => e.xs | none => []
def partV (es : List Ext) : Value := match es.find? Ext.isPart with | some e => .slice e.A e.xs.length e.c | none => .slice none 0 0
theorem find_here {es : List Ext} {j : Nat} {e : Ext} (h0 : (es.take j).find? Ext.isPart = none) (hj : es[j]? = some e) (hp : e.isPart = true) : es.find? Ext.isPart = some e := by
  obtain ⟨hlt, rfl⟩ := List.getElem?_eq_some_iff.1 hj
  rw [show es.find? Ext.isPart = (es.take j ++ (es[j] :: es.drop (j + 1))).find? Ext.isPart from by rw [← List.drop_eq_getElem_cons hlt, List.take_append_drop], List.find?_append, h0]
  simp only [Option.none_or, List.find?_cons, hp]
theorem find_on {es : List Ext} {j : Nat} {e : Ext} (h0 : (es.take j).find? Ext.isPart = none) (hj : es[j]? = some e) (hp : e.isPart = false) : (es.take (j + 1)).find? Ext.isPart = none := by
  obtain ⟨hlt, rfl⟩ := List.getElem?_eq_some_iff.1 hj
  rw [List.take_succ_eq_append_getElem hlt, List.find?_append, h0]
  simp [hp]
theorem partV_read (es : List Ext) (w : World) (B : Nat) (h : ∀ e ∈ es, IsB w B e.A e.xs.length e.xs ∧ e.xs.length ≤ e.c ∧ e.c ≤ maxLen) : ∃ A n c, partV es = .slice A n c ∧ IsB w B A n (partB es) ∧ n ≤ maxLen := by
  unfold partV partB
  rcases hf : es.find? Ext.isPart with _ | e
  · exact ⟨none, 0, 0, rfl, IsB.nil _ _ _, by unfold maxLen; omega⟩
  · have hm := h e (List.mem_of_find?_eq_some hf)
    exact ⟨e.A, _, e.c, rfl, hm.1, by omega⟩
end Six
end Go.Proofs.YtccmbnaakdffaaaDoor
/- four.raw: the header that bytes are, by contract. Conditions: slices of bytes that read as lists, a header's length that lies within. -/
namespace Go.Proofs.YtccmbnaakdffaaaDoor
open Go.RowKit Go.ChangeShapes Go.WideShapes Go.ChangeAt Go.Deep
theorem below_set {n : Nat} {a b : World} (h : Below n a b) {p : Addr} (hp : p.block = n) (u : Value) : Below n a (b.setCell p u) := h.setCell (Nat.le_of_eq hp.symm) u
namespace Four
/-- The header that bytes are. -/
abbrev rawV (xs : List UInt8) (A : Option Addr) (n c : Nat) : Value :=
  hdV ((xs.getD 1 0).toNat : Nat) (beN xs 4 2 : Nat) (decide (beN xs 6 2 / 16384 % 2 = 1)) (decide (beN xs 6 2 / 8192 % 2 = 1)) (beN xs 6 2 % 8192 : Nat) ((xs.getD 8 0).toNat : Nat) ((xs.getD 9 0).toNat : Nat)
    false 0 (beN xs 12 4 : Nat) false 0 (beN xs 16 4 : Nat) A n c
end Four
end Go.Proofs.YtccmbnaakdffaaaDoor
/- four.Parse and what says why bytes are no packet, by contract, a theorem a branch. Conditions: slices of bytes that read as lists. -/
namespace Go.Proofs.YtccmbnaakdffaaaDoor
open Go.RowKit Go.ChangeShapes Go.WideShapes Go.ChangeAt Go.Deep
namespace Four
/-- No header. -/
abbrev hd0 : Value := hdV 0 0 false false 0 0 0 false 0 0 false 0 0 none 0 0
theorem isP_one {w : World} (b : Nat) (hb : w.heap.size = b) {t : TypeId} {A : Option Addr} {n c : Nat} {xs : List UInt8} (hx : IsB w w.heap.size A n xs) (hn : n ≤ maxLen) :
    Sum.IsP (w.alloc (.cells #[.slice A n c] t)) (w.alloc (.cells #[.slice A n c] t)).heap.size (some ⟨b, 0, none⟩) 1 [⟨A, c, xs⟩] := by
  have e1 := hx.1
  subst e1 hb
  refine ⟨rfl, fun _ => ⟨w.heap.size, 0, rfl, by simp, fun i hi => ?_⟩, fun p hmem => ?_⟩
  · rw [blk_cell (blk_new _ _ _) (0 + i)]
    obtain rfl : i = 0 := by simp at hi; omega
    rfl
  · simp only [List.mem_cons, List.not_mem_nil, or_false] at hmem
    subst hmem
    exact ⟨hx.alloc _, hn⟩
end Four
end Go.Proofs.YtccmbnaakdffaaaDoor
/- four.Quote by contract; and the pseudo header. Conditions: slices of bytes that read as lists. -/
namespace Go.Proofs.YtccmbnaakdffaaaDoor
open Go.RowKit Go.ChangeShapes Go.WideShapes Go.ChangeAt Go.Deep
namespace Four
/-- Why bytes quote nothing; 0: they do. -/
def quoteK (n : Nat) (xs : List UInt8) : Nat := if n < 20 then 2 else if (xs.getD 0 0).toNat / 16 ≠ 4 then 10 else if (xs.getD 0 0).toNat % 16 * 4 < 20 ∨ n < (xs.getD 0 0).toNat % 16 * 4 then 11 else 0
end Four
end Go.Proofs.YtccmbnaakdffaaaDoor
/- udp.Parse, by contract. Conditions: slices of bytes that read as lists, at most 2^40 bytes. -/
namespace Go.Proofs.YtccmbnaakdffaaaDoor
open Go.RowKit Go.ChangeShapes Go.WideShapes Go.ChangeAt Go.Deep
namespace Udp
/-- Why bytes are no datagram: 0 if they are one. -/
def parseK (bare : Bool) (ps xs : List UInt8) : Nat :=
  if xs.length < 8 then 2 else if beN xs 4 2 ≠ xs.length then 12 else if beN xs 6 2 = 0 then (if bare = true then 0 else 13) else if Sum.ones (Sum.tot false (ps ++ xs)) = 65535 then 0 else 13
def parseS (K : Nat) (xs : List UInt8) (p : Nat) : Nat := if K = 0 then beN xs p 2 else 0
def parseB (K : Nat) (xs : List UInt8) : Bool := decide (K = 0 ∧ beN xs 6 2 = 0)
def parseR (K : Nat) (xs : List UInt8) : List UInt8 := if K = 0 then xs.drop 8 else []
/-- How it ends. -/
def PEnd (K : Nat) (xs : List UInt8) (w w' : World) (e : Ending) : Prop :=
  ∃ A' m' c', e = .returned (.tuple #[.agg #[.int .i64 (parseS K xs 0 : Nat), .int .i64 (parseS K xs 2 : Nat), .bool (parseB K xs)], .slice A' m' c', .int .i64 (K : Int)]) ∧ IsB w' w'.heap.size A' m' (parseR K xs) ∧ m' ≤ c' ∧ c' ≤ maxLen ∧ Below w.heap.size w w'
theorem end_no {K : Nat} {xs : List UInt8} {w w' : World} (h : K ≠ 0) (hb : Below w.heap.size w w') : PEnd K xs w w' (.returned (.tuple #[.agg #[.int .i64 0, .int .i64 0, .bool false], .slice none 0 0, .int .i64 (K : Int)])) := by
  refine ⟨none, 0, 0, ?_, ?_, Nat.le_refl _, by unfold maxLen; omega, hb⟩
  · unfold parseS parseB
    rw [if_neg h, if_neg h, decide_eq_false (fun hh => h hh.1)]
    rfl
  · unfold parseR
    rw [if_neg h]
    exact IsB.nil _ _ _
end Udp
end Go.Proofs.YtccmbnaakdffaaaDoor
/- addr: digits of a number. Conditions: base 10 or 16, a number of 64 bits. -/
namespace Go.Proofs.YtccmbnaakdffaaaDoor
open Go.RowKit Go.ChangeShapes Go.WideShapes Go.ChangeAt Go.Deep
namespace Addr05
def hexC (d : Nat) : UInt8 := if d < 10 then UInt8.ofNat (48 + d) else UInt8.ofNat (87 + d)
/-- The digits of a number, at most so many. -/
def digF (b : Nat) : Nat → Nat → List UInt8
  | 0, _ => []
  | k + 1, n => if n < b then [hexC n] else digF b k (n / b) ++ [hexC (n % b)]
def digL (b n : Nat) : List UInt8 := digF b 20 n
theorem hex_get : ∀ (d : Nat) (h : d < 16), (ByteArray.mk #[48, 49, 50, 51, 52, 53, 54, 55, 56, 57, 97, 98, 99, 100, 101, 102])[d]'h = hexC d := by decide
theorem digF_lt {b k n : Nat} (h : n < b) : digF b (k + 1) n = [hexC n] := by rw [digF, if_pos h]
theorem digF_ge {b k n : Nat} (h : ¬ n < b) : digF b (k + 1) n = digF b k (n / b) ++ [hexC (n % b)] := by rw [digF, if_neg h]
set_option maxRecDepth 20000 in
set_option maxHeartbeats 4000000 in
theorem digits_any (b : Nat) (hb : b = 10 ∨ b = 16) (n : Nat) (hn : n < 18446744073709551616) (w : World) :
    Calls Tryd.prog 46 #[.int .u64 (n : Int), .int .u64 (b : Int)] w fun e w' => e = .returned (.string (str (digL b n))) ∧ Below w.heap.size w w' := by
  go_enter Tryd.func46, Tryd.ntmps46
  go_wp2_with fail
  go_loopw [0, 5] (fun nv bv wr => ∃ (j m : Nat) (acc : List UInt8), j < 20 ∧ nv = .int .u64 (m : Int) ∧ m ≤ n ∧ m < b ^ (20 - j) ∧ digF b (20 - j) m ++ acc = digL b n ∧ acc.length = j ∧ OwnB wr w.heap.size bv acc ∧ Below w.heap.size w wr) (fun nv _ _ => (intOf nv).toNat)
  case atStart => exact ⟨0, n, [], by omega, rfl, Nat.le_refl _, by rcases hb with rfl | rfl <;> omega, by simp [digL], rfl, OwnB.nil _ _, Below.refl _ _⟩
  case round =>
    obtain ⟨j, m, acc, hj, rfl, hmn, hm, hd, hl, ho, hB⟩ := hrel
    have hb0 : ((b : Int) == 0) = false := by rw [beq_eq_false_iff_ne]; omega
    have hm0 : (m : Int) % (b : Int) = ((m % b : Nat) : Int) := by omega
    obtain ⟨d, hdd⟩ : ∃ d, m % b = d := ⟨_, rfl⟩
    have hd16 : d < 16 := by rw [← hdd]; have := Nat.mod_lt m (show 0 < b by omega); omega
    rw [hdd] at hm0
    have i1 : (0 : Int) ≤ (d : Int) := by omega
    have i2 : (d : Int) < 16 := by omega
    replace hd := hide hd
    replace ho := hide ho
    replace hB := hide hB
    obtain ⟨Ab, cb, rfl, hcb, hmb, hib⟩ := ho.out.form
    have hal := hl
    replace hib := hide hib
    replace hl := hide hl
    go_wp2_with (at_builtin; refine wpl_src_bv rfl (.tmp 10) (.tmp 11) rfl wr.heap.size (.slice (some ⟨wr.heap.size, 0, none⟩) 1 1) [hexC d] acc Ab acc.length cb wr.heap.size rfl rfl ?_ ?_ ?_ ?_ ?_)
    · exact OwnB.litv wr wr.heap.size _ [hexC d] 1 (by rw [hex_get d hd16]; rfl) rfl (Nat.le_refl _) (by omega)
    · exact hib.out.below ((Below.refl _ _).alloc (Nat.le_refl _) _)
    · first | omega | simp
    · rw [List.length_singleton]; omega
    intro v2 w2 hown2 hg2
    have hb2 : Below wr.heap.size wr w2 := ((Below.refl _ _).alloc (Nat.le_refl _) _).trans (hg2.below (OwnB.litv wr wr.heap.size _ [hexC d] 1 (by rw [hex_get d hd16]; rfl) rfl (Nat.le_refl _) (by omega)) (by simp))
    obtain ⟨q, hq⟩ : ∃ q, m / b = q := ⟨_, rfl⟩
    have hq0 : (m : Int) / (b : Int) = (q : Int) := by rw [← hq]; rfl
    have hsz := hB.out.size
    have hB2 := hB.out.trans (hb2.mono hsz)
    obtain ⟨t, ht⟩ : ∃ t, hexC d :: acc = t := ⟨_, rfl⟩
    have htl : t.length = j + 1 := by rw [← ht, List.length_cons, hl.out]
    rw [ht] at hown2
    obtain ⟨A2, c2, hv2, hc2, hm2, hi2⟩ := hown2.form
    rw [htl] at hv2 hc2 hi2
    subst hv2
    have hst := hi2.str c2
    have ho2 := hown2.weaken hsz
    have hqm : q ≤ m := by rw [← hq]; exact Nat.div_le_self _ _
    have wq := wrapsu64 (q : Int) (by omega) (by omega)
    clear hown2 hg2 hib ho
    have hmb1 : m < b ↔ q = 0 := by
      rw [← hq, Nat.div_eq_zero_iff]
      omega
    replace hi2 := hide hi2
    replace hb2 := hide hb2
    replace hB2 := hide hB2
    replace ho2 := hide ho2
    replace hd := hide hd
    replace ht := hide ht
    replace hqm := hide hqm
    replace hmb1 := hide hmb1
    replace hq := hide hq
    by_cases hz : q = 0
    · have t0 : ((q : Int) == 0) = true := by rw [hz]; rfl
      go_wp2_with fail
      go_ret
      refine ⟨?_, hB2.out⟩
      obtain ⟨i, hi⟩ : ∃ i, 20 - j = i + 1 := ⟨19 - j, by omega⟩
      have h1 := hd.out.out
      have h2 := hmb1.out.2 hz
      rw [hi, digF_lt h2] at h1
      rw [Nat.mod_eq_of_lt h2] at hdd
      subst hdd
      have h3 : t = digL b n := by rw [← h1, ← ht.out]; rfl
      rw [← h3]
      rfl
    · have t0 : ((q : Int) == 0) = false := by rw [beq_eq_false_iff_ne]; omega
      go_wp2_with fail
      have hge : ¬ m < b := fun h => hz (hmb1.out.1 h)
      have hj19 : j < 19 := by
        rcases Nat.lt_or_ge j 19 with h | h
        · exact h
        · have e : j = 19 := by omega
          rw [e] at hm
          exact absurd (by simpa using hm) hge
      obtain ⟨i, hi⟩ : ∃ i, 19 - j = i + 1 := ⟨18 - j, by omega⟩
      have e2 : 20 - j = (19 - j) + 1 := by omega
      have e3 : 20 - (j + 1) = 19 - j := by omega
      have h1 := hd.out.out
      rw [e2, digF_ge hge, hq.out, hdd, List.append_assoc] at h1
      rw [e2, Nat.pow_succ] at hm
      refine ⟨⟨j + 1, q, t, by omega, rfl, Nat.le_trans hqm.out hmn, ?_, ?_, htl, ho2.out, hB2.out⟩, ?_⟩
      · rw [e3, ← hq.out]
        exact Nat.div_lt_of_lt_mul (by rw [Nat.mul_comm]; exact hm)
      · rw [e3, ← h1, ← ht.out]; rfl
      · have := hq.out
        have hlt : q < m := by
          rw [← this]
          exact Nat.div_lt_self (by rcases hb with rfl | rfl <;> omega) (by rcases hb with rfl | rfl <;> omega)
        simpa [intOf] using hlt
/-- The digits of small numbers, written out. -/
theorem dig10 (n : Nat) (h : n ≤ 255) : digL 10 n = if n < 10 then [hexC n] else if n < 100 then [hexC (n / 10), hexC (n % 10)] else [hexC (n / 100), hexC (n / 10 % 10), hexC (n % 10)] := by
  unfold digL
  by_cases h1 : n < 10
  · rw [digF_lt h1, if_pos h1]
  · rw [digF_ge h1, if_neg h1]
    by_cases h2 : n < 100
    · rw [digF_lt (by omega), if_pos h2]; rfl
    · rw [digF_ge (by omega), digF_lt (by omega), if_neg h2, Nat.div_div_eq_div_mul]; rfl
theorem dig16 (n : Nat) (h : n ≤ 65535) : digL 16 n = if n < 16 then [hexC n] else if n < 256 then [hexC (n / 16), hexC (n % 16)] else if n < 4096 then [hexC (n / 256), hexC (n / 16 % 16), hexC (n % 16)] else [hexC (n / 4096), hexC (n / 256 % 16), hexC (n / 16 % 16), hexC (n % 16)] := by
  unfold digL
  by_cases h1 : n < 16
  · rw [digF_lt h1, if_pos h1]
  · rw [digF_ge h1, if_neg h1]
    by_cases h2 : n < 256
    · rw [digF_lt (by omega), if_pos h2]; rfl
    · rw [digF_ge (by omega), if_neg h2]
      by_cases h3 : n < 4096
      · rw [digF_lt (by omega), if_pos h3, Nat.div_div_eq_div_mul]; rfl
      · rw [digF_ge (by omega), digF_lt (by omega), if_neg h3]
        simp only [Nat.div_div_eq_div_mul]
        rfl
end Addr05
end Go.Proofs.YtccmbnaakdffaaaDoor
/- law05: digits of a number. Conditions: base 10 or 16, a number of 64 bits. -/
namespace Go.Proofs.YtccmbnaakdffaaaDoor
open Go.RowKit Go.ChangeShapes Go.WideShapes Go.ChangeAt Go.Deep
namespace Addr05
theorem hex_slice : ∀ (d : Nat), d < 16 → (ByteArray.mk #[48, 49, 50, 51, 52, 53, 54, 55, 56, 57, 97, 98, 99, 100, 101, 102]).extract d (d + 1) = str [hexC d] := by decide
theorem str_append (a b : List UInt8) : str a ++ str b = str (a ++ b) := by
  unfold str
  apply ByteArray.ext
  simp
set_option maxRecDepth 20000 in
set_option maxHeartbeats 4000000 in
theorem ldigits_any (b : Nat) (hb : b = 10 ∨ b = 16) (n : Nat) (hn : n < 18446744073709551616) (w : World) :
    Calls Tryd.prog 43 #[.int .u64 (n : Int), .int .u64 (b : Int)] w fun e w' => e = .returned (.string (str (digL b n))) ∧ Below w.heap.size w w' := by
  go_enter Tryd.func43, Tryd.ntmps43
  go_wp2_with fail
  go_loopw [0, 5, 6] (fun nv sv iv wr => ∃ (j m : Nat) (acc : List UInt8), j ≤ 20 ∧ nv = .int .u64 (m : Int) ∧ m ≤ n ∧ iv = .int .i64 (j : Int) ∧ sv = .string (str acc) ∧ acc.length = j ∧ m < b ^ (20 - j) ∧ (if j = 0 ∨ m ≠ 0 then digF b (20 - j) m ++ acc else acc) = digL b n ∧ Below w.heap.size w wr) (fun _ _ iv _ => 20 - (intOf iv).toNat)
  case atStart => exact ⟨0, n, [], by omega, rfl, Nat.le_refl _, rfl, rfl, rfl, by rcases hb with rfl | rfl <;> omega, by simp [digL], Below.refl _ _⟩
  case round =>
    obtain ⟨j, m, acc, hj, rfl, hmn, rfl, rfl, hal, hm, hd, hB⟩ := hrel
    have hb0 : ((b : Int) == 0) = false := by rw [beq_eq_false_iff_ne]; omega
    have hm0 : (m : Int) % (b : Int) = ((m % b : Nat) : Int) := by omega
    obtain ⟨d, hdd⟩ : ∃ d, m % b = d := ⟨_, rfl⟩
    have hd16 : d < 16 := by rw [← hdd]; have := Nat.mod_lt m (show 0 < b by omega); omega
    rw [hdd] at hm0
    obtain ⟨q, hq⟩ : ∃ q, m / b = q := ⟨_, rfl⟩
    have hq0 : (m : Int) / (b : Int) = (q : Int) := by rw [← hq]; rfl
    have i1 : (0 : Int) ≤ (d : Int) := by omega
    have i2 : (d : Int) < 16 := by omega
    replace hd := hide hd
    replace hB := hide hB
    have wq := wrapsu64 (q : Int) (by omega) (by have := Nat.div_le_self m b; omega)
    have hsl := hex_slice d hd16
    have wd := wrapsu64 ((d : Int) + 1) (by omega) (by omega)
    rw [show (d : Int) + 1 = ((d + 1 : Nat) : Int) from rfl] at wd
    obtain ⟨d1, hd1⟩ : ∃ x, d + 1 = x := ⟨_, rfl⟩
    rw [hd1] at hsl wd
    have wd2 : IntKind.u64.wrap ((d : Int) + 1) = (d1 : Int) := by rw [← wd, ← hd1]; rfl
    have i3 : d1 ≤ 16 := by omega
    have i4 : d ≤ d1 := by omega
    have i5 : (d1 : Int) ≤ 16 := by omega
    clear wd
    replace hd1 := hide hd1
    replace hdd := hide hdd
    replace hq := hide hq
    obtain ⟨t, ht⟩ : ∃ t, hexC d :: acc = t := ⟨_, rfl⟩
    have hcat : str [hexC d] ++ str acc = str t := by rw [str_append, ← ht]; rfl
    have hss : ¬ 9223372036854775807 < (str [hexC d]).size + (str acc).size := by
      have e1 : (str [hexC d]).size = 1 := rfl
      have e2 : (str acc).size = acc.length := List.size_toArray
      omega
    replace ht := hide ht
    replace hal := hide hal
    have hbn : ¬ b = 0 := by omega
    have hmt : (m : Int).tmod (b : Int) = (d : Int) := by rw [← hm0]; rfl
    have hmd : (m : Int).tdiv (b : Int) = (q : Int) := by rw [← hq0]; rfl
    have key : (j = 0 ∨ m ≠ 0) → j < 20 → q ≤ m ∧ q < b ^ (19 - j) ∧ (if q ≠ 0 then digF b (19 - j) q ++ t else t) = digL b n := by
      intro h0 h1
      have h2 := hd.out
      rw [if_pos h0] at h2
      have e2 : 20 - j = (19 - j) + 1 := by omega
      have hqq := hq.out
      rw [e2] at h2
      rw [e2, Nat.pow_succ] at hm
      refine ⟨by rw [← hqq]; exact Nat.div_le_self _ _, by rw [← hqq]; exact Nat.div_lt_of_lt_mul (by rw [Nat.mul_comm]; exact hm), ?_⟩
      by_cases hz : q = 0
      · have hlt : m < b := by
          rw [← hqq, Nat.div_eq_zero_iff] at hz
          omega
        have hdd2 := hdd.out
        rw [Nat.mod_eq_of_lt hlt] at hdd2
        rw [if_neg (by omega), ← h2, digF_lt hlt, ← ht.out, hdd2]; rfl
      · have hge : ¬ m < b := by
          intro h
          exact hz (by rw [← hqq]; exact Nat.div_eq_of_lt h)
        rw [if_pos hz, ← h2, digF_ge hge, hqq, hdd.out, ← ht.out, List.append_assoc]; rfl
    have hlt : m ≠ 0 → j < 20 := by
      intro h
      rcases Nat.lt_or_ge j 20 with h1 | h1
      · exact h1
      · have e : j = 20 := by omega
        rw [e] at hm
        exact absurd (by simpa using hm) h
    have fin : j ≠ 0 → m = 0 → acc = digL b n := by
      intro h0 h1
      have h2 := hd.out
      rwa [if_neg (by omega)] at h2
    replace key := hide key
    replace hlt := hide hlt
    replace fin := hide fin
    replace hm := hide hm
    by_cases hc1 : j = 20
    · have t1 : ((j : Int) < 20) = False := by rw [eq_iff_iff, iff_false]; omega
      go_wp2_with fail
      go_ret
      have hm0 : m = 0 := by
        rcases Nat.eq_zero_or_pos m with h | h
        · exact h
        · have := hlt.out (by omega); omega
      exact ⟨by rw [fin.out (by omega) hm0]; rfl, hB.out⟩
    have t1 : (j : Int) < 20 := by omega
    have t3 : decide ((j : Int) < 20) = true := decide_eq_true t1
    by_cases hc2 : j = 0
    · have t2 : ((j : Int) == 0) = true := by rw [hc2]; rfl
      go_wp2_with fail
      refine wp_region_L (by as_aux_lemma => kernel_rfl) ?_
      refine wpE_seg 0 11 (fuel := 0) (by as_aux_lemma => kernel_rfl) (fun d _ _ _ _ h => by cases d <;> exact h) (by as_aux_lemma => kernel_rfl) (by as_aux_lemma => kernel_rfl) ?_
      simp only [List.drop_zero, List.take_succ_cons, List.take_zero]
      iterate 11 (refine wpQE_step (fun K hK => ?_); go_simp; refine hK _ ?_; clear hK K)
      refine wpQE_nil ?_
      refine wpE_done (by as_aux_lemma => kernel_rfl) (fun w3 hb3 => ?_) 0
      go_wp2_with fail
      obtain ⟨k1, k2, k3⟩ := key.out (.inl hc2) (by omega)
      subst hc2
      refine ⟨⟨1, q, t, by omega, rfl, Nat.le_trans k1 hmn, rfl, rfl, by rw [← ht.out, List.length_cons, hal.out], k2, ?_, hB.out.trans (hb3.mono hB.out.size)⟩, ?_⟩
      · rw [← k3]; simp
      · simp [intOf]
    · have t2 : ((j : Int) == 0) = false := by rw [beq_eq_false_iff_ne]; omega
      by_cases hc3 : m = 0
      · have t4 : decide ((0 : Int) < (m : Int)) = false := by rw [decide_eq_false_iff_not]; omega
        go_wp2_with fail
        go_ret
        exact ⟨by rw [fin.out hc2 hc3]; rfl, hB.out⟩
      · have t4 : decide ((0 : Int) < (m : Int)) = true := by rw [decide_eq_true_eq]; omega
        go_wp2_with fail
        refine wp_region_L (by as_aux_lemma => kernel_rfl) ?_
        refine wpE_seg 0 11 (fuel := 0) (by as_aux_lemma => kernel_rfl) (fun d _ _ _ _ h => by cases d <;> exact h) (by as_aux_lemma => kernel_rfl) (by as_aux_lemma => kernel_rfl) ?_
        simp only [List.drop_zero, List.take_succ_cons, List.take_zero]
        iterate 11 (refine wpQE_step (fun K hK => ?_); go_simp; refine hK _ ?_; clear hK K)
        refine wpQE_nil ?_
        refine wpE_done (by as_aux_lemma => kernel_rfl) (fun w3 hb3 => ?_) 0
        go_wp2_with fail
        have hj20 := hlt.out hc3
        obtain ⟨k1, k2, k3⟩ := key.out (.inr hc3) hj20
        refine ⟨⟨j + 1, q, t, by omega, rfl, Nat.le_trans k1 hmn, rfl, rfl, by rw [← ht.out, List.length_cons, hal.out], by rw [show 20 - (j + 1) = 19 - j by omega]; exact k2, ?_, hB.out.trans (hb3.mono hB.out.size)⟩, ?_⟩
        · rw [← k3, show 20 - (j + 1) = 19 - j by omega]; simp
        · simp only [intOf]; omega
end Addr05
end Go.Proofs.YtccmbnaakdffaaaDoor
/- Contracts of strings, laid at this program off the shelf. Conditions: as each says. -/
namespace Go.Proofs.YtccmbnaakdffaaaDoor
open Go.Shelf
def Tryd.lays156_ren : Go.Shelf.Ren := ⟨fun | 156 => 47 | 165 => 63 | 166 => 64 | 169 => 65 | 240 => 71 | 241 => 72 | 276 => 81 | 277 => 82 | n => n, fun | 31 => 84 | 9 => 9 | 3 => 3 | 4 => 4 | 0 => 0 | 20 => 20 | 72 => 108 | 76 => 112 | 70 => 106 | 37 => 38 | 75 => 111 | 127 => 118 | 164 => 123 | 5 => 5 | 80 => 114 | n => n, fun | n => n⟩
theorem Tryd.lays156 : Go.Proofs.Lays.n156 Tryd.prog Tryd.lays156_ren := {
  mixed := by kernel_rfl
  f156 := Tryd.func47.trans (congrArg some (by kernel_rfl))
  f165 := Tryd.func63.trans (congrArg some (by kernel_rfl))
  f166 := Tryd.func64.trans (congrArg some (by kernel_rfl))
  f169 := Tryd.func65.trans (congrArg some (by kernel_rfl))
  f240 := Tryd.func71.trans (congrArg some (by kernel_rfl))
  f241 := Tryd.func72.trans (congrArg some (by kernel_rfl))
  f276 := Tryd.func81.trans (congrArg some (by kernel_rfl))
  f277 := Tryd.func82.trans (congrArg some (by kernel_rfl))
  t0 := Tryd.underlying0
  a0 := Tryd.isAgg0
  z0 := Tryd.sizeOf0
  v0 := Tryd.zeroValue0
  t3 := Tryd.underlying3
  a3 := Tryd.isAgg3
  z3 := Tryd.sizeOf3
  v3 := Tryd.zeroValue3
  t4 := Tryd.underlying4
  a4 := Tryd.isAgg4
  z4 := Tryd.sizeOf4
  v4 := Tryd.zeroValue4
  t9 := Tryd.underlying9
  a9 := Tryd.isAgg9
  z9 := Tryd.sizeOf9
  v9 := Tryd.zeroValue9
  t20 := Tryd.underlying20
  a20 := Tryd.isAgg20
  z20 := Tryd.sizeOf20
  v20 := Tryd.zeroValue20
  t31 := Tryd.underlying84
  a31 := Tryd.isAgg84
  z31 := Tryd.sizeOf84
  v31 := Tryd.zeroValue84
  t37 := Tryd.underlying38
  a37 := Tryd.isAgg38
  z37 := Tryd.sizeOf38
  v37 := Tryd.zeroValue38
  t70 := Tryd.underlying106
  a70 := Tryd.isAgg106
  z70 := Tryd.sizeOf106
  v70 := Tryd.zeroValue106
  t72 := Tryd.underlying108
  a72 := Tryd.isAgg108
  z72 := Tryd.sizeOf108
  v72 := Tryd.zeroValue108
  t75 := Tryd.underlying111
  a75 := Tryd.isAgg111
  z75 := Tryd.sizeOf111
  v75 := Tryd.zeroValue111
  t76 := Tryd.underlying112
  a76 := Tryd.isAgg112
  z76 := Tryd.sizeOf112
  v76 := Tryd.zeroValue112
  t127 := Tryd.underlying118
  a127 := Tryd.isAgg118
  z127 := Tryd.sizeOf118
  v127 := Tryd.zeroValue118
  t164 := Tryd.underlying123
  a164 := Tryd.isAgg123
  z164 := Tryd.sizeOf123
  v164 := Tryd.zeroValue123 }
theorem Tryd.Builder_Extra_156 : Builder.Extra Tryd.prog Tryd.lays156_ren := {
  sizeBuilder := by kernel_rfl
  liesBuilder := by kernel_rfl
  t5 := Tryd.underlying5
  a5 := Tryd.isAgg5
  z5 := Tryd.sizeOf5
  v5 := Tryd.zeroValue5
  infoByte := by kernel_rfl
  cellsByte := by kernel_rfl
  sizeByte := by kernel_rfl
  neB5 := by decide }
open Go.RowKit in
theorem Tryd.strings_Join_none (a : Option Addr) (c : Nat) (sep : ByteArray) (w : World) :
    Calls Tryd.prog 47 #[.slice a 0 c, .string sep] w fun e w' => e = .returned (.string ⟨#[]⟩) ∧ w' = w := Any.strings_Join_none Tryd.lays156 Tryd.Builder_Extra_156 a c sep w
open Go.RowKit in
theorem Tryd.strings_Join (bk o c : Nat) (xs : List ByteArray) (sep : ByteArray) (w : World) (hcells : ∀ (j : Nat) x, xs[j]? = some x → w.cell? ⟨bk, o + j, none⟩ = some (.string x)) (hbk : bk < w.heap.size) (hN : xs.length ≤ 140737488355328) (hcap : xs.length ≤ c) (hlen : (Lib.join (xs.map (·.data.toList)) sep.data.toList).length ≤ 140737488355328) :
    Calls Tryd.prog 47 #[.slice (some ⟨bk, o, none⟩) xs.length c, .string sep] w fun e w' => e = .returned (.string ⟨(Lib.join (xs.map (·.data.toList)) sep.data.toList).toArray⟩) ∧ Below w.heap.size w w' := Any.strings_Join Tryd.lays156 Tryd.Builder_Extra_156 bk o c xs sep w hcells hbk hN hcap hlen
def Tryd.lays137_ren : Go.Shelf.Ren := ⟨fun | 137 => 69 | 217 => 77 | 266 => 87 | n => n, fun | 9 => 9 | 5 => 5 | 3 => 3 | n => n, fun | n => n⟩
theorem Tryd.lays137 : Go.Proofs.Lays.n137 Tryd.prog Tryd.lays137_ren := {
  mixed := by kernel_rfl
  f137 := Tryd.func69.trans (congrArg some (by kernel_rfl))
  f217 := Tryd.func77.trans (congrArg some (by kernel_rfl))
  f266 := Tryd.func87.trans (congrArg some (by kernel_rfl))
  t3 := Tryd.underlying3
  a3 := Tryd.isAgg3
  z3 := Tryd.sizeOf3
  v3 := Tryd.zeroValue3
  t5 := Tryd.underlying5
  a5 := Tryd.isAgg5
  z5 := Tryd.sizeOf5
  v5 := Tryd.zeroValue5
  t9 := Tryd.underlying9
  a9 := Tryd.isAgg9
  z9 := Tryd.sizeOf9
  v9 := Tryd.zeroValue9 }
open Go.RowKit in
theorem Tryd.strings_IndexByte (s : ByteArray) (c : Int) (w : World) :
    Calls Tryd.prog 69 #[.string s, .int .u8 c] w fun e w' => e = .returned (.int .i64 (Lib.indexByte s.data.toList c.toNat.toUInt8)) ∧ w' = w := Any.strings_IndexByte Tryd.lays137 s c w
def Tryd.lays144_ren : Go.Shelf.Ren := ⟨fun | 144 => 41 | 143 => 61 | 219 => 70 | 217 => 77 | 225 => 78 | 224 => 79 | 267 => 80 | 266 => 87 | 314 => 88 | n => n, fun | 9 => 9 | 4 => 4 | 3 => 3 | 5 => 5 | 46 => 80 | 146 => 129 | 51 => 32 | n => n, fun | 1 => 0 | n => n⟩
theorem Tryd.lays144 : Go.Proofs.Lays.n144 Tryd.prog Tryd.lays144_ren := {
  mixed := by kernel_rfl
  f143 := Tryd.func61.trans (congrArg some (by kernel_rfl))
  f144 := Tryd.func41.trans (congrArg some (by kernel_rfl))
  f217 := Tryd.func77.trans (congrArg some (by kernel_rfl))
  f219 := Tryd.func70.trans (congrArg some (by kernel_rfl))
  f224 := Tryd.func79.trans (congrArg some (by kernel_rfl))
  f225 := Tryd.func78.trans (congrArg some (by kernel_rfl))
  f266 := Tryd.func87.trans (congrArg some (by kernel_rfl))
  f267 := Tryd.func80.trans (congrArg some (by kernel_rfl))
  f314 := Tryd.func88.trans (congrArg some (by kernel_rfl))
  t3 := Tryd.underlying3
  a3 := Tryd.isAgg3
  z3 := Tryd.sizeOf3
  v3 := Tryd.zeroValue3
  t4 := Tryd.underlying4
  a4 := Tryd.isAgg4
  z4 := Tryd.sizeOf4
  v4 := Tryd.zeroValue4
  t5 := Tryd.underlying5
  a5 := Tryd.isAgg5
  z5 := Tryd.sizeOf5
  v5 := Tryd.zeroValue5
  t9 := Tryd.underlying9
  a9 := Tryd.isAgg9
  z9 := Tryd.sizeOf9
  v9 := Tryd.zeroValue9
  t46 := Tryd.underlying80
  a46 := Tryd.isAgg80
  z46 := Tryd.sizeOf80
  v46 := Tryd.zeroValue80
  t51 := Tryd.underlying32
  a51 := Tryd.isAgg32
  z51 := Tryd.sizeOf32
  v51 := Tryd.zeroValue32
  t146 := Tryd.underlying129
  a146 := Tryd.isAgg129
  z146 := Tryd.sizeOf129
  v146 := Tryd.zeroValue129
  g1 := by kernel_rfl }
open Go.RowKit Go.Lib in
theorem Tryd.strings_Contains_one (s : ByteArray) (c : UInt8) (w : World) :
    Calls Tryd.prog 41 #[.string s, .string ⟨#[c]⟩] w fun e w' => e = .returned (.bool (decide (0 ≤ Lib.indexByte s.data.toList c))) ∧ w' = w := Any.strings_Contains_one Tryd.lays144 s c w
def Tryd.lays145_ren : Go.Shelf.Ren := ⟨fun | 145 => 52 | 220 => 66 | 219 => 70 | 217 => 77 | 225 => 78 | 224 => 79 | 267 => 80 | 266 => 87 | 314 => 88 | n => n, fun | 9 => 9 | 4 => 4 | 59 => 92 | 3 => 3 | 5 => 5 | 46 => 80 | 146 => 129 | 51 => 32 | n => n, fun | 1 => 0 | n => n⟩
theorem Tryd.lays145 : Go.Proofs.Lays.n145 Tryd.prog Tryd.lays145_ren := {
  mixed := by kernel_rfl
  f145 := Tryd.func52.trans (congrArg some (by kernel_rfl))
  f217 := Tryd.func77.trans (congrArg some (by kernel_rfl))
  f219 := Tryd.func70.trans (congrArg some (by kernel_rfl))
  f220 := Tryd.func66.trans (congrArg some (by kernel_rfl))
  f224 := Tryd.func79.trans (congrArg some (by kernel_rfl))
  f225 := Tryd.func78.trans (congrArg some (by kernel_rfl))
  f266 := Tryd.func87.trans (congrArg some (by kernel_rfl))
  f267 := Tryd.func80.trans (congrArg some (by kernel_rfl))
  f314 := Tryd.func88.trans (congrArg some (by kernel_rfl))
  t3 := Tryd.underlying3
  a3 := Tryd.isAgg3
  z3 := Tryd.sizeOf3
  v3 := Tryd.zeroValue3
  t4 := Tryd.underlying4
  a4 := Tryd.isAgg4
  z4 := Tryd.sizeOf4
  v4 := Tryd.zeroValue4
  t5 := Tryd.underlying5
  a5 := Tryd.isAgg5
  z5 := Tryd.sizeOf5
  v5 := Tryd.zeroValue5
  t9 := Tryd.underlying9
  a9 := Tryd.isAgg9
  z9 := Tryd.sizeOf9
  v9 := Tryd.zeroValue9
  t46 := Tryd.underlying80
  a46 := Tryd.isAgg80
  z46 := Tryd.sizeOf80
  v46 := Tryd.zeroValue80
  t51 := Tryd.underlying32
  a51 := Tryd.isAgg32
  z51 := Tryd.sizeOf32
  v51 := Tryd.zeroValue32
  t59 := Tryd.underlying92
  a59 := Tryd.isAgg92
  z59 := Tryd.sizeOf92
  v59 := Tryd.zeroValue92
  t146 := Tryd.underlying129
  a146 := Tryd.isAgg129
  z146 := Tryd.sizeOf129
  v146 := Tryd.zeroValue129
  g1 := by kernel_rfl }
open Go.RowKit Go.Lib in
theorem Tryd.strings_Cut (s sep : ByteArray) (m : Int) (w : World) (hs : s.size < 4294967281) (hm : w.cell? ⟨0, 0, none⟩ = some (.int .i64 m)) :
    Calls Tryd.prog 52 #[.string s, .string sep] w fun e w' => e = .returned (.tuple #[.string ⟨(Lib.cut s.data.toList sep.data.toList).1.toArray⟩, .string ⟨(Lib.cut s.data.toList sep.data.toList).2.1.toArray⟩, .bool (Lib.cut s.data.toList sep.data.toList).2.2]) ∧ ∃ n, w' = w.drewN n := Any.strings_Cut Tryd.lays145 s sep m w hs hm
def Tryd.lays146_ren : Go.Shelf.Ren := ⟨fun | 146 => 59 | 221 => 68 | 268 => 75 | 138 => 76 | 143 => 61 | 195 => 84 | 197 => 85 | 218 => 86 | 219 => 70 | 260 => 90 | 217 => 77 | 225 => 78 | 224 => 79 | 267 => 80 | 266 => 87 | 314 => 88 | n => n, fun | 9 => 9 | 31 => 84 | 3 => 3 | 4 => 4 | 0 => 0 | 105 => 127 | 21 => 21 | 5 => 5 | 46 => 80 | 119 => 131 | 139 => 134 | 138 => 133 | 146 => 129 | 51 => 32 | n => n, fun | 1 => 0 | 3 => 1 | 4 => 2 | n => n⟩
theorem Tryd.lays146 : Go.Proofs.Lays.n146 Tryd.prog Tryd.lays146_ren := {
  mixed := by kernel_rfl
  f138 := Tryd.func76.trans (congrArg some (by kernel_rfl))
  f143 := Tryd.func61.trans (congrArg some (by kernel_rfl))
  f146 := Tryd.func59.trans (congrArg some (by kernel_rfl))
  f195 := Tryd.func84.trans (congrArg some (by kernel_rfl))
  f197 := Tryd.func85.trans (congrArg some (by kernel_rfl))
  f217 := Tryd.func77.trans (congrArg some (by kernel_rfl))
  f218 := Tryd.func86.trans (congrArg some (by kernel_rfl))
  f219 := Tryd.func70.trans (congrArg some (by kernel_rfl))
  f221 := Tryd.func68.trans (congrArg some (by kernel_rfl))
  f224 := Tryd.func79.trans (congrArg some (by kernel_rfl))
  f225 := Tryd.func78.trans (congrArg some (by kernel_rfl))
  f260 := Tryd.func90.trans (congrArg some (by kernel_rfl))
  f266 := Tryd.func87.trans (congrArg some (by kernel_rfl))
  f267 := Tryd.func80.trans (congrArg some (by kernel_rfl))
  f268 := Tryd.func75.trans (congrArg some (by kernel_rfl))
  f314 := Tryd.func88.trans (congrArg some (by kernel_rfl))
  t0 := Tryd.underlying0
  a0 := Tryd.isAgg0
  z0 := Tryd.sizeOf0
  v0 := Tryd.zeroValue0
  t3 := Tryd.underlying3
  a3 := Tryd.isAgg3
  z3 := Tryd.sizeOf3
  v3 := Tryd.zeroValue3
  t4 := Tryd.underlying4
  a4 := Tryd.isAgg4
  z4 := Tryd.sizeOf4
  v4 := Tryd.zeroValue4
  t5 := Tryd.underlying5
  a5 := Tryd.isAgg5
  z5 := Tryd.sizeOf5
  v5 := Tryd.zeroValue5
  t9 := Tryd.underlying9
  a9 := Tryd.isAgg9
  z9 := Tryd.sizeOf9
  v9 := Tryd.zeroValue9
  t21 := Tryd.underlying21
  a21 := Tryd.isAgg21
  z21 := Tryd.sizeOf21
  v21 := Tryd.zeroValue21
  t31 := Tryd.underlying84
  a31 := Tryd.isAgg84
  z31 := Tryd.sizeOf84
  v31 := Tryd.zeroValue84
  t46 := Tryd.underlying80
  a46 := Tryd.isAgg80
  z46 := Tryd.sizeOf80
  v46 := Tryd.zeroValue80
  t51 := Tryd.underlying32
  a51 := Tryd.isAgg32
  z51 := Tryd.sizeOf32
  v51 := Tryd.zeroValue32
  t105 := Tryd.underlying127
  a105 := Tryd.isAgg127
  z105 := Tryd.sizeOf127
  v105 := Tryd.zeroValue127
  t119 := Tryd.underlying131
  a119 := Tryd.isAgg131
  z119 := Tryd.sizeOf131
  t138 := Tryd.underlying133
  a138 := Tryd.isAgg133
  z138 := Tryd.sizeOf133
  v138 := Tryd.zeroValue133
  t139 := Tryd.underlying134
  a139 := Tryd.isAgg134
  z139 := Tryd.sizeOf134
  v139 := Tryd.zeroValue134
  t146 := Tryd.underlying129
  a146 := Tryd.isAgg129
  z146 := Tryd.sizeOf129
  v146 := Tryd.zeroValue129
  g1 := by kernel_rfl
  g3 := by kernel_rfl
  g4 := by kernel_rfl }
open Go.RowKit Go.Lib in
theorem Tryd.strings_Split (s sep : ByteArray) (m : Int) (w : World) (hs : s.size < 4294967281) (hm : w.cell? ⟨0, 0, none⟩ = some (.int .i64 m)) (h1 : 1 ≤ sep.size) :
    Calls Tryd.prog 59 #[.string s, .string sep] w fun e w' =>
      e = .returned (.slice (some ⟨w.heap.size, 0, none⟩) (Lib.countB s sep + 1) (Lib.countB s sep + 1)) ∧ w' = w.alloc (.cells ((Lib.splitB sep 0 (Lib.countB s sep) s).map Value.string).toArray 9) := Any.strings_Split Tryd.lays146 (by kernel_rfl) s sep m w hs hm h1
end Go.Proofs.YtccmbnaakdffaaaDoor
/- tcp.Parse, by contract. Conditions: slices of bytes that read as lists, at most 2^40 bytes. -/
namespace Go.Proofs.YtccmbnaakdffaaaDoor
open Go.RowKit Go.ChangeShapes Go.WideShapes Go.ChangeAt Go.Deep
theorem set8all {w : World} {g : Nat} {t : TypeId} {a0 a1 a2 a3 a4 a5 a6 a7 : Value} (h : w.heap[g]? = some (.cells #[a0, a1, a2, a3, a4, a5, a6, a7] t (0, 0))) (v0 v1 v2 v3 v4 v5 v6 v7 : Value) : ∃ w', ((((((((w.setCell ⟨g, 0, none⟩ v0).setCell ⟨g, 1, none⟩ v1).setCell ⟨g, 2, none⟩ v2).setCell ⟨g, 3, none⟩ v3).setCell ⟨g, 4, none⟩ v4).setCell ⟨g, 5, none⟩ v5).setCell ⟨g, 6, none⟩ v6).setCell ⟨g, 7, none⟩ v7) = w' ∧ w'.heap[g]? = some (.cells #[v0, v1, v2, v3, v4, v5, v6, v7] t (0, 0)) ∧ w.grownBy w' (some g) := by
  refine ⟨_, rfl, ?_, ?_⟩
  · simpa using (blk_set (blk_set (blk_set (blk_set (blk_set (blk_set (blk_set (blk_set h 0 v0) 1 v1) 2 v2) 3 v3) 4 v4) 5 v5) 6 v6) 7 v7)
  · iterate 8 refine grown_set ?_ rfl _
    exact grown_refl _ _
namespace Tcp
/-- Why bytes are no segment: 0 if they are one. -/
def parseK (ps xs : List UInt8) : Nat :=
  if xs.length < 20 then 2 else if (xs.getD 12 0).toNat / 16 * 4 < 20 ∨ xs.length < (xs.getD 12 0).toNat / 16 * 4 ∨ (xs.getD 12 0).toNat % 16 ≠ 0 then 11 else if Sum.ones (Sum.tot false (ps ++ xs)) = 65535 then 0 else 13
def parseS (K : Nat) (xs : List UInt8) (p : Nat) : Nat := if K = 0 then beN xs p 2 else 0
def parseF (K : Nat) (xs : List UInt8) : Nat := if K = 0 then (xs.getD 13 0).toNat else 0
abbrev hdV (sp dp seq ack fl wn ug : Int) (A : Option Addr) (n c : Nat) : Value := .agg #[.int .i64 sp, .int .i64 dp, .int .u32 seq, .int .u32 ack, .int .i64 fl, .int .i64 wn, .int .i64 ug, .slice A n c]
/-- How it ends. -/
def PEnd (K : Nat) (xs : List UInt8) (w w' : World) (e : Ending) : Prop :=
  ∃ seq ack wn ug A1 n1 c1 A2 n2 c2, e = .returned (.tuple #[hdV (parseS K xs 0 : Nat) (parseS K xs 2 : Nat) seq ack (parseF K xs : Nat) wn ug A1 n1 c1, .slice A2 n2 c2, .int .i64 (K : Int)]) ∧ Below w.heap.size w w'
theorem end_no {K : Nat} {xs : List UInt8} {w w' : World} (h : K ≠ 0) (hb : Below w.heap.size w w') : PEnd K xs w w' (.returned (.tuple #[hdV 0 0 0 0 0 0 0 none 0 0, .slice none 0 0, .int .i64 (K : Int)])) := by
  refine ⟨0, 0, 0, 0, none, 0, 0, none, 0, 0, ?_, hb⟩
  unfold parseS parseF
  rw [if_neg h, if_neg h, if_neg h]
  rfl
end Tcp
end Go.Proofs.YtccmbnaakdffaaaDoor
/- six.chain by contract: a header and those that extend it. Conditions: slices of bytes that read as lists. -/
namespace Go.Proofs.YtccmbnaakdffaaaDoor
open Go.RowKit Go.ChangeShapes Go.WideShapes Go.ChangeAt Go.Deep
theorem v6_any (hi lo : Int) (w : World) :
    Calls Tryd.prog 20 #[.int .u64 hi, .int .u64 lo] w fun e w' => e = .returned (.agg #[.bool true, .int .u64 hi, .int .u64 lo]) ∧ Below w.heap.size w w' := by
  go_enter Tryd.func20, Tryd.ntmps20
  go_wp2
  exact bodyPost_ret (v := .agg #[.bool true, .int .u64 hi, .int .u64 lo]) (by simp [results, Tryd.results20, go_sem]) rfl ⟨rfl, (Below.refl _ _).alloc (Nat.le_refl _) _⟩
theorem u64_wrap63 (n : Int) (h0 : 0 ≤ n) (h1 : n < 2 ^ 63) : IntKind.u64.wrap n = n := wrapsu64 n h0 (by omega)
theorem u64_and255 (x : Int) (h0 : 0 ≤ x) (h1 : x < 4294967296) : bits .and .u64 x 255 = x % 256 := bits_mask .u64 63 (by decide) u64_wrap63 8 (by decide) x h0 (by omega)
theorem u64_and20 (x : Int) (h0 : 0 ≤ x) (h1 : x < 4294967296) : bits .and .u64 x 1048575 = x % 1048576 := bits_mask .u64 63 (by decide) u64_wrap63 20 (by decide) x h0 (by omega)
theorem set11 {w : World} {g : Nat} {t : TypeId} {a0 a1 a2 a3 a4 a5 a6 a7 a8 a9 a10 : Value} (h : w.heap[g]? = some (.cells #[a0, a1, a2, a3, a4, a5, a6, a7, a8, a9, a10] t (0, 0))) (v0 v1 v2 v3 v4 v5 v6 v7 v8 v9 v10 : Value) :
    ∃ w', (((((((((((w.setCell ⟨g, 0, none⟩ v0).setCell ⟨g, 1, none⟩ v1).setCell ⟨g, 2, none⟩ v2).setCell ⟨g, 3, none⟩ v3).setCell ⟨g, 4, none⟩ v4).setCell ⟨g, 5, none⟩ v5).setCell ⟨g, 6, none⟩ v6).setCell ⟨g, 7, none⟩ v7).setCell ⟨g, 8, none⟩ v8).setCell ⟨g, 9, none⟩ v9).setCell ⟨g, 10, none⟩ v10) = w' ∧ w'.heap[g]? = some (.cells #[v0, v1, v2, v3, v4, v5, v6, v7, v8, v9, v10] t (0, 0)) ∧ w.grownBy w' (some g) := by
  refine ⟨_, rfl, ?_, ?_⟩
  · simpa using (blk_set (blk_set (blk_set (blk_set (blk_set (blk_set (blk_set (blk_set (blk_set (blk_set (blk_set h 0 v0) 1 v1) 2 v2) 3 v3) 4 v4) 5 v5) 6 v6) 7 v7) 8 v8) 9 v9) 10 v10)
  · iterate 11 refine grown_set ?_ rfl _
    exact grown_refl _ _
theorem own_kept {w w' : World} {base : Nat} {v : Value} {e : TypeId} {size n : Nat} {xs : List Value} {row : Option Nat} (h : w.ownsRow base e size v n xs) (hg : w.grownBy w' row) (hne : v.ownBlock = none ∨ v.ownBlock ≠ row) : w'.ownsRow base e size v n xs := World.ownsRow.kept h hg hne
theorem grown_none {w w' : World} (hb : Below w.heap.size w w') : w.grownBy w' none := ⟨hb.os, hb.tape, hb.output, hb.size, fun k hk _ => hb.block k hk⟩
theorem own_below {w w' : World} {base : Nat} {v : Value} {e : TypeId} {size n : Nat} {xs : List Value} (h : w.ownsRow base e size v n xs) (hb : Below w.heap.size w w') : w'.ownsRow base e size v n xs :=
  own_kept h (grown_none hb) (by cases v.ownBlock <;> simp)
/-- Rows of different types lie in different blocks. -/
theorem own_apart {w : World} {base base' : Nat} {v u : Value} {e e' : TypeId} {size n size' n' : Nat} {xs xs' : List Value} (h : w.ownsRow base e size v n xs) (h' : w.ownsRow base' e' size' u n' xs') (hne : e ≠ e') : v.ownBlock = none ∨ v.ownBlock ≠ u.ownBlock := by
  rcases h.2 with ⟨rfl, _⟩ | ⟨g, cap, cur, rfl, hg, hh, _⟩
  · exact .inl rfl
  · rcases h'.2 with ⟨rfl, _⟩ | ⟨g', cap', cur', rfl, hg', hh', _⟩
    · exact .inr (by intro e; cases e)
    · right
      intro e
      have : g = g' := by simpa [Value.ownBlock] using e
      subst this
      rw [hh] at hh'
      simp at hh'
      exact hne hh'.2
theorem own_not {w : World} {base : Nat} {v : Value} {e : TypeId} {size n : Nat} {xs : List Value} (h : w.ownsRow base e size v n xs) {g : Nat} (hg : g < base) : v.ownBlock = none ∨ v.ownBlock ≠ some g := by
  rcases hob : v.ownBlock with _ | k
  · exact .inl rfl
  · right
    intro e
    have h1 := (World.ownsRow.lt h k hob).1
    cases e
    omega
namespace Six
/-! ### Plain -/
def Ext.pe (e : Ext) : Int × List UInt8 := (e.k, e.xs)
def partP (acc : List (Int × List UInt8)) : List UInt8 := match acc.find? fun p => decide (p.1 = 44 ∧ p.2.length = 7) with | some p => p.2 | none => []
theorem partB_eq (es : List Ext) : partB es = partP (es.map Ext.pe) := by
  unfold partB partP
  rw [List.find?_map]
  have e : ((fun p : Int × List UInt8 => decide (p.1 = 44 ∧ p.2.length = 7)) ∘ Ext.pe) = Ext.isPart := by
    funext e
    exact decide_eq_decide.mpr Iff.rfl
  rw [e]
  rcases es.find? Ext.isPart with _ | e <;> rfl
def fragP (acc : List (Int × List UInt8)) : Nat := beN (partP acc) 1 2 / 8
/-- How long the next one is. -/
def sizeP (next : Nat) (rs : List UInt8) : Nat := if next = 44 then 8 else 8 + 8 * (rs.getD 1 0).toNat
/-- The headers that extend one. -/
def chainF : Nat → Nat → List UInt8 → List (Int × List UInt8) → Option (List (Int × List UInt8) × Nat × List UInt8)
  | 0, _, _, _ => none
  | f + 1, next, rs, acc =>
    if isB (next : Int) = false then some (acc, next, rs)
    else if acc.length = 8 ∨ rs.length < 8 then none
    else if rs.length < sizeP next rs ∨ (next = 0 ∧ 0 < acc.length) then none
    else if 0 < fragP (acc ++ [((next : Int), (rs.take (sizeP next rs)).drop 1)]) then
      (if isB ((rs.getD 0 0).toNat : Int) = true then none else some (acc ++ [((next : Int), (rs.take (sizeP next rs)).drop 1)], (rs.getD 0 0).toNat, rs.drop (sizeP next rs)))
    else chainF f (rs.getD 0 0).toNat (rs.drop (sizeP next rs)) (acc ++ [((next : Int), (rs.take (sizeP next rs)).drop 1)])
/-! ### The walk -/
/-- No header. -/
abbrev hd0 : Value := hdV 0 0 0 false 0 0 false 0 0 none 0 0 0
theorem own_weaken {w : World} {base base' : Nat} {v : Value} {e : TypeId} {size n : Nat} {xs : List Value} (h : w.ownsRow base e size v n xs) (hb : base' ≤ base) : w.ownsRow base' e size v n xs :=
  ⟨h.1, h.2.imp id fun ⟨g, cap, cur, h1, h2, h3⟩ => ⟨g, cap, cur, h1, Nat.le_trans hb h2, h3⟩⟩
section
variable {w w' : World} {base : Nat} {X : Option Addr} {xc : Nat} {es : List Ext}
end
/-- A slice's length. -/
def sliceLen : Value → Nat
  | .slice _ n _ => n
  | _ => 0
end Six
end Go.Proofs.YtccmbnaakdffaaaDoor
/- six.Quote and six.Parse by contract. Conditions: slices of bytes that read as lists. -/
namespace Go.Proofs.YtccmbnaakdffaaaDoor
open Go.RowKit Go.ChangeShapes Go.WideShapes Go.ChangeAt Go.Deep
namespace Six
/-- Why bytes quote nothing; 0: they do. -/
def quoteK (n : Nat) (xs : List UInt8) : Nat := if n < 40 then 2 else if (xs.getD 0 0).toNat / 16 ≠ 6 then 10 else if (chainF 9 (xs.getD 6 0).toNat (xs.drop 40) []).isNone then 11 else 0
def quoteR (xs : List UInt8) : Option (List (Int × List UInt8) × Nat × List UInt8) := chainF 9 (xs.getD 6 0).toNat (xs.drop 40) []
/-- Why bytes are no packet; 0: they are. -/
def parseK (n : Nat) (xs : List UInt8) : Nat := if n < 40 then 2 else if (xs.getD 0 0).toNat / 16 ≠ 6 then 10 else if n - 40 < beN xs 4 2 then 12 else if (chainF 9 (xs.getD 6 0).toNat ((xs.take (40 + beN xs 4 2)).drop 40) []).isNone then 11 else 0
def parseR (xs : List UInt8) : Option (List (Int × List UInt8) × Nat × List UInt8) := chainF 9 (xs.getD 6 0).toNat ((xs.take (40 + beN xs 4 2)).drop 40) []
theorem getD_take (xs : List UInt8) (m i : Nat) (h : i < m) : (xs.take m).getD i 0 = xs.getD i 0 := by
  simp only [List.getD, List.getElem?_take_of_lt h]
theorem beN_take (xs : List UInt8) (m p : Nat) : ∀ k, p + k ≤ m → beN (xs.take m) p k = beN xs p k
  | 0, _ => rfl
  | k + 1, h => by rw [beN, beN, beN_take xs m p k (by omega), getD_take xs m _ (by omega)]
end Six
end Go.Proofs.YtccmbnaakdffaaaDoor
