/- mix: numbers that are mixed, and a number below another one: the code's and the document's. Conditions: numbers of 64 bits. -/
import Derived.Test.YtcpokkkdmenmgaaGreatDoorProg
import Derived.Test.YtcpokkkdmenmgaaGreatDoorQStorePlays1
import Derived.Test.YtcpokkkdmenmgaaGreatDoorQStorePlays2
import Derived.Test.YtcpokkkdmenmgaaGreatDoorQStorePlays3
import Derived.Deep.CutBlock
import Derived.Deep.DeepCutAuto
import Derived.Laws.Bits64
import Derived.Lib.Mul64
import Derived.Shelf.Bits.Mul64
import Derived.Shelf.LaysM
import Derived.Shelf.Small.Strs
import Derived.Shelf.Strings.Builder1
import Derived.Shelf.Strings.Builder2
import Derived.Shelf.Strings.Count
import Derived.Shelf.Strings.Cut
import Derived.Shelf.Strings.Explode
import Derived.Shelf.Strings.OnBuilder
import Derived.Shelf.Strings.RuneCount
import Derived.Shelf.Strings.Search1
import Derived.Shelf.Strings.Search2
import Derived.Shelf.Strings.Search3
import Derived.Shelf.Strings.Shaped
import Derived.Shelf.Strings.Split
import Derived.Shelf.Strings.SplitShaped
import Derived.Shelf.Unicode.Decode
import Derived.Shelf.Unicode.DecodeAny
import Derived.Shelf.Unicode.DecodeSlow
import Derived.Shelf.Utf8.RuneCount
namespace Go.Proofs.YtcpokkkdmenmgaaGreatDoor
open Go.RowKit Go.ChangeShapes Go.WideShapes Go.ChangeAt Go.Deep
namespace Mix
/-- A number that is mixed. -/
def shN (x : Nat) : Nat := x ^^^ x / 8589934592
def mixN (x : Nat) : Nat := shN (shN (shN x * 18397679294719823053 % 18446744073709551616) * 14181476777654086739 % 18446744073709551616)
theorem shN_lt (x : Nat) (hx : x < 18446744073709551616) : shN x < 18446744073709551616 := by
  have h := Nat.div_le_self x 8589934592
  have := Nat.xor_lt_two_pow (n := 64) (show x < 2 ^ 64 by omega) (show x / 8589934592 < 2 ^ 64 by omega)
  unfold shN
  omega
theorem mixN_lt (x : Nat) : mixN x < 18446744073709551616 := shN_lt _ (Nat.mod_lt _ (by omega))
theorem one_shape (x : Nat) (hx : x < 18446744073709551616) : bits .xor .u64 (x : Int) ((x : Int) / 8589934592) = ((shN x : Nat) : Int) := xorShift_u64 x 8589934592 hx
theorem wrapMul (x c : Nat) : IntKind.u64.wrap ((x : Int) * (c : Int)) = ((x * c % 18446744073709551616 : Nat) : Int) := by
  rw [IntKind.wrap_u64]; omega
/-- A number below another one. -/
def belN (x n : Nat) : Nat := x * n / 18446744073709551616
theorem belN_lt (x n : Nat) (hx : x < 18446744073709551616) (hn : 1 ≤ n) : belN x n < n := by
  unfold belN
  rw [Nat.div_lt_iff_lt_mul (by omega), Nat.mul_comm]
  exact Nat.mul_lt_mul_of_pos_left hx hn
theorem belN_le (x n : Nat) (hx : x < 18446744073709551616) : belN x n ≤ n := by
  rcases Nat.eq_zero_or_pos n with rfl | h
  · simp [belN]
  · have := belN_lt x n hx h
    omega
end Mix
end Go.Proofs.YtcpokkkdmenmgaaGreatDoor
/- addr.Bytes by contract. Conditions: numbers of 64 bits. -/
namespace Go.Proofs.YtcpokkkdmenmgaaGreatDoor
open Go.RowKit Go.ChangeShapes Go.WideShapes Go.ChangeAt Go.Deep
/-- An address's bytes. -/
def addrB (v6 : Bool) (hi lo : Nat) : List UInt8 := if v6 then beB hi 8 ++ beB lo 8 else beB lo 4
theorem addrB_length (v6 : Bool) (hi lo : Nat) : (addrB v6 hi lo).length ≤ 16 := by
  unfold addrB
  split <;> simp [beB_length]
end Go.Proofs.YtcpokkkdmenmgaaGreatDoor
/- icmp.Parse and what its statement's text uses, by contract. Conditions: slices of bytes that read as lists. -/
namespace Go.Proofs.YtcpokkkdmenmgaaGreatDoor
open Go.RowKit Go.ChangeShapes Go.WideShapes Go.ChangeAt Go.Deep
namespace Icmp
/-- What a message is that bytes of 8 at least are. -/
def msgV (xs : List UInt8) (A : Option Addr) (m c : Nat) : Value := .agg #[.int .i64 ((xs.getD 0 0).toNat : Nat), .int .i64 ((xs.getD 1 0).toNat : Nat), .int .u32 (beN xs 4 4 : Nat), .slice A m c]
def msg0 : Value := .agg #[.int .i64 0, .int .i64 0, .int .u32 0, .slice none 0 0]
theorem isP_two {w : World} (b : Nat) (hb : w.heap.size = b) {t : TypeId} {A P : Option Addr} {n c m d : Nat} {xs ps : List UInt8} (hx : IsB w w.heap.size A n xs) (hp : IsB w w.heap.size P m ps) (hn : n ≤ maxLen) (hm : m ≤ maxLen) :
    Sum.IsP (w.alloc (.cells #[.slice P m d, .slice A n c] t)) (w.alloc (.cells #[.slice P m d, .slice A n c] t)).heap.size (some ⟨b, 0, none⟩) 2 [⟨P, d, ps⟩, ⟨A, c, xs⟩] := by
  have e1 := hx.1
  have e2 := hp.1
  subst e1 e2 hb
  refine ⟨rfl, fun _ => ⟨w.heap.size, 0, rfl, by simp, fun i hi => ?_⟩, fun p hmem => ?_⟩
  · rw [blk_cell (blk_new _ _ _) (0 + i)]
    have hi' : i = 0 ∨ i = 1 := by simp at hi; omega
    rcases hi' with rfl | rfl <;> rfl
  · simp only [List.mem_cons, List.not_mem_nil, or_false] at hmem
    rcases hmem with rfl | rfl
    · exact ⟨hp.alloc _, hm⟩
    · exact ⟨hx.alloc _, hn⟩
end Icmp
end Go.Proofs.YtcpokkkdmenmgaaGreatDoor
/- The small functions of layer 9, by contract: headers that extend one, as a slice that reads as a list. Conditions: slices that read as lists. -/
namespace Go.Proofs.YtcpokkkdmenmgaaGreatDoor
open Go.RowKit Go.ChangeShapes Go.WideShapes Go.ChangeAt Go.Deep
namespace Six
/-- A header that extends one: its kind, where its bytes lie, its bytes. -/
structure Ext where
  k : Int
  A : Option Addr
  c : Nat
  xs : List UInt8
/-- Its cells. -/
def Ext.cs (e : Ext) : List Value := [.int .i64 e.k, .slice e.A e.xs.length e.c]
def cells (es : List Ext) : List Value := es.flatMap Ext.cs
theorem cells_length (es : List Ext) : (cells es).length = es.length * 2 := by
  induction es with
  | nil => rfl
  | cons e es ih => simp only [cells, List.flatMap_cons, List.length_append, Ext.cs, List.length_cons, List.length_nil] at ih ⊢; omega
theorem cells_get (es : List Ext) : ∀ (i : Nat) (h : i < es.length), (cells es)[i * 2]? = some (.int .i64 es[i].k) ∧ (cells es)[i * 2 + 1]? = some (.slice es[i].A es[i].xs.length es[i].c) := by
  induction es with
  | nil => intro i h; simp at h
  | cons e es ih =>
    intro i h
    rcases i with _ | i
    · simp [cells, Ext.cs]
    · have h1 := ih i (by simpa using h)
      have e1 : (i + 1) * 2 = i * 2 + 2 := by omega
      have e2 : (i + 1) * 2 + 1 = (i * 2 + 1) + 2 := by omega
      rw [e1]
      simp only [cells, List.flatMap_cons, Ext.cs, List.cons_append, List.nil_append] at h1 ⊢
      exact ⟨by simpa using h1.1, by simpa using h1.2⟩
/-- The slice reads as these, below block B. -/
def IsX (w : World) (B : Nat) (A : Option Addr) (n : Nat) (es : List Ext) : Prop :=
  es.length = n ∧ IsV w B 2 A n (cells es) ∧ ∀ e ∈ es, IsB w B e.A e.xs.length e.xs ∧ e.xs.length ≤ e.c ∧ e.c ≤ maxLen
section
variable {w w' : World} {B B' n : Nat} {A : Option Addr} {es : List Ext}
theorem IsX.nil (w : World) (B : Nat) (A : Option Addr) : IsX w B A 0 [] := ⟨rfl, IsV.nil _ _ _ _, fun _ h => by cases h⟩
theorem IsX.below (h : IsX w B A n es) (hb : Below B w w') : IsX w' B A n es := ⟨h.1, h.2.1.below hb, fun e he => ⟨(h.2.2 e he).1.below hb, (h.2.2 e he).2⟩⟩
theorem IsX.more (h : IsX w B A n es) (hB : B ≤ B') : IsX w B' A n es := ⟨h.1, h.2.1.more hB, fun e he => ⟨(h.2.2 e he).1.more hB, (h.2.2 e he).2⟩⟩
theorem IsX.on (h : IsX w w.heap.size A n es) (hb : Below w.heap.size w w') : IsX w' w'.heap.size A n es := (h.below hb).more hb.size
theorem IsX.later (h : IsX w w.heap.size A n es) (l : Later w) : IsX l.w l.w.heap.size A n es := h.on l.hb
theorem IsX.alloc (h : IsX w w.heap.size A n es) (o : Obj) : IsX (w.alloc o) (w.alloc o).heap.size A n es := h.on ((Below.refl _ _).alloc (Nat.le_refl _) o)
theorem IsX.at (h : IsX w B A n es) {i : Nat} (hi : i < n) : ∃ b off k Ae c xs, A = some ⟨b, off, none⟩ ∧ b < B ∧ es[i]? = some ⟨k, Ae, c, xs⟩ ∧ w.cell? ⟨b, off + i * 2, none⟩ = some (.int .i64 k) ∧ w.cell? ⟨b, off + i * 2 + 1, none⟩ = some (.slice Ae xs.length c) ∧ IsB w B Ae xs.length xs ∧ xs.length ≤ c ∧ c ≤ maxLen := by
  obtain ⟨hl, hv, hp⟩ := h
  obtain ⟨b, off, e, hb, hc⟩ := hv.2 (by omega)
  have hil : i < es.length := by omega
  have hg := cells_get es i hil
  have hcl := cells_length es
  refine ⟨b, off, es[i].k, es[i].A, es[i].c, es[i].xs, e, hb, by rw [List.getElem?_eq_getElem hil], ?_, ?_, hp _ (List.getElem_mem hil)⟩
  · rw [hc (i * 2) (by omega)]
    rw [List.getElem?_eq_getElem (by omega)] at hg
    exact hg.1
  · rw [Nat.add_assoc, hc (i * 2 + 1) (by omega)]
    have h2 := hg.2
    rw [List.getElem?_eq_getElem (by omega)] at h2
    exact h2
end
/-- Does a kind extend? -/
def isB (k : Int) : Bool := decide (k = 0 ∨ k = 43 ∨ k = 44 ∨ k = 60)
/-- A header, as a value. -/
abbrev hdV (cls lab hop : Int) (sv : Bool) (shi slo : Int) (dv : Bool) (dhi dlo : Int) (X : Option Addr) (n c : Nat) (proto : Int) : Value :=
  .agg #[.int .i64 cls, .int .i64 lab, .int .i64 hop, .bool sv, .int .u64 shi, .int .u64 slo, .bool dv, .int .u64 dhi, .int .u64 dlo, .slice X n c, .int .i64 proto]
/-- Is one the header of a part? -/
def Ext.isPart (e : Ext) : Bool := decide (e.k = 44 ∧ e.xs.length = 7)
def partB (es : List Ext) : List UInt8 := match es.find? Ext.isPart with | some e => e.xs | none => []
def partV (es : List Ext) : Value := match es.find? Ext.isPart with | some e => .slice e.A e.xs.length e.c | none => .slice none 0 0
theorem find_here {es : List Ext} {j : Nat} {e : Ext} (h0 : (es.take j).find? Ext.isPart = none) (hj : es[j]? = some e) (hp : e.isPart = true) : es.find? Ext.isPart = some e := by
  obtain ⟨hlt, rfl⟩ := List.getElem?_eq_some_iff.1 hj
  rw [show es.find? Ext.isPart = (es.take j ++ (es[j] :: es.drop (j + 1))).find? Ext.isPart from by rw [← List.drop_eq_getElem_cons hlt, List.take_append_drop], List.find?_append, h0]
  simp only [Option.none_or, List.find?_cons, hp]
theorem find_on {es : List Ext} {j : Nat} {e : Ext} (h0 : (es.take j).find? Ext.isPart = none) (hj : es[j]? = some e) (hp : e.isPart = false) : (es.take (j + 1)).find? Ext.isPart = none := by
  obtain ⟨hlt, rfl⟩ := List.getElem?_eq_some_iff.1 hj
  rw [List.take_succ_eq_append_getElem hlt, List.find?_append, h0]
  simp [hp]
theorem partV_read (es : List Ext) (w : World) (B : Nat) (h : ∀ e ∈ es, IsB w B e.A e.xs.length e.xs ∧ e.xs.length ≤ e.c ∧ e.c ≤ maxLen) : ∃ A n c, partV es = .slice A n c ∧ IsB w B A n (partB es) ∧ n ≤ maxLen := by
  unfold partV partB
  rcases hf : es.find? Ext.isPart with _ | e
  · exact ⟨none, 0, 0, rfl, IsB.nil _ _ _, by unfold maxLen; omega⟩
  · have hm := h e (List.mem_of_find?_eq_some hf)
    exact ⟨e.A, _, e.c, rfl, hm.1, by omega⟩
end Six
end Go.Proofs.YtcpokkkdmenmgaaGreatDoor
/- four.raw: the header that bytes are, by contract. Conditions: slices of bytes that read as lists, a header's length that lies within. -/
namespace Go.Proofs.YtcpokkkdmenmgaaGreatDoor
open Go.RowKit Go.ChangeShapes Go.WideShapes Go.ChangeAt Go.Deep
theorem below_set {n : Nat} {a b : World} (h : Below n a b) {p : Addr} (hp : p.block = n) (u : Value) : Below n a (b.setCell p u) := h.setCell (Nat.le_of_eq hp.symm) u
namespace Four
/-- The header that bytes are. -/
abbrev rawV (xs : List UInt8) (A : Option Addr) (n c : Nat) : Value :=
  hdV ((xs.getD 1 0).toNat : Nat) (beN xs 4 2 : Nat) (decide (beN xs 6 2 / 16384 % 2 = 1)) (decide (beN xs 6 2 / 8192 % 2 = 1)) (beN xs 6 2 % 8192 : Nat) ((xs.getD 8 0).toNat : Nat) ((xs.getD 9 0).toNat : Nat)
    false 0 (beN xs 12 4 : Nat) false 0 (beN xs 16 4 : Nat) A n c
end Four
end Go.Proofs.YtcpokkkdmenmgaaGreatDoor
/- four.Parse and what says why bytes are no packet, by contract, a theorem a branch. Conditions: slices of bytes that read as lists. -/
namespace Go.Proofs.YtcpokkkdmenmgaaGreatDoor
open Go.RowKit Go.ChangeShapes Go.WideShapes Go.ChangeAt Go.Deep
namespace Four
/-- No header. -/
abbrev hd0 : Value := hdV 0 0 false false 0 0 0 false 0 0 false 0 0 none 0 0
theorem isP_one {w : World} (b : Nat) (hb : w.heap.size = b) {t : TypeId} {A : Option Addr} {n c : Nat} {xs : List UInt8} (hx : IsB w w.heap.size A n xs) (hn : n ≤ maxLen) :
    Sum.IsP (w.alloc (.cells #[.slice A n c] t)) (w.alloc (.cells #[.slice A n c] t)).heap.size (some ⟨b, 0, none⟩) 1 [⟨A, c, xs⟩] := by
  have e1 := hx.1
  subst e1 hb
  refine ⟨rfl, fun _ => ⟨w.heap.size, 0, rfl, by simp, fun i hi => ?_⟩, fun p hmem => ?_⟩
  · rw [blk_cell (blk_new _ _ _) (0 + i)]
    obtain rfl : i = 0 := by simp at hi; omega
    rfl
  · simp only [List.mem_cons, List.not_mem_nil, or_false] at hmem
    subst hmem
    exact ⟨hx.alloc _, hn⟩
end Four
end Go.Proofs.YtcpokkkdmenmgaaGreatDoor
/- four.Quote by contract; and the pseudo header. Conditions: slices of bytes that read as lists. -/
namespace Go.Proofs.YtcpokkkdmenmgaaGreatDoor
open Go.RowKit Go.ChangeShapes Go.WideShapes Go.ChangeAt Go.Deep
namespace Four
/-- Why bytes quote nothing; 0: they do. -/
def quoteK (n : Nat) (xs : List UInt8) : Nat := if n < 20 then 2 else if (xs.getD 0 0).toNat / 16 ≠ 4 then 10 else if (xs.getD 0 0).toNat % 16 * 4 < 20 ∨ n < (xs.getD 0 0).toNat % 16 * 4 then 11 else 0
end Four
end Go.Proofs.YtcpokkkdmenmgaaGreatDoor
/- udp.Parse, by contract. Conditions: slices of bytes that read as lists, at most 2^40 bytes. -/
namespace Go.Proofs.YtcpokkkdmenmgaaGreatDoor
open Go.RowKit Go.ChangeShapes Go.WideShapes Go.ChangeAt Go.Deep
namespace Udp
/-- Why bytes are no datagram: 0 if they are one. -/
def parseK (bare : Bool) (ps xs : List UInt8) : Nat :=
  if xs.length < 8 then 2 else if beN xs 4 2 ≠ xs.length then 12 else if beN xs 6 2 = 0 then (if bare = true then 0 else 13) else if Sum.ones (Sum.tot false (ps ++ xs)) = 65535 then 0 else 13
def parseS (K : Nat) (xs : List UInt8) (p : Nat) : Nat := if K = 0 then beN xs p 2 else 0
def parseB (K : Nat) (xs : List UInt8) : Bool := decide (K = 0 ∧ beN xs 6 2 = 0)
def parseR (K : Nat) (xs : List UInt8) : List UInt8 := if K = 0 then xs.drop 8 else []
/-- How it ends. -/
def PEnd (K : Nat) (xs : List UInt8) (w w' : World) (e : Ending) : Prop :=
  ∃ A' m' c', e = .returned (.tuple #[.agg #[.int .i64 (parseS K xs 0 : Nat), .int .i64 (parseS K xs 2 : Nat), .bool (parseB K xs)], .slice A' m' c', .int .i64 (K : Int)]) ∧ IsB w' w'.heap.size A' m' (parseR K xs) ∧ m' ≤ c' ∧ c' ≤ maxLen ∧ Below w.heap.size w w'
theorem end_no {K : Nat} {xs : List UInt8} {w w' : World} (h : K ≠ 0) (hb : Below w.heap.size w w') : PEnd K xs w w' (.returned (.tuple #[.agg #[.int .i64 0, .int .i64 0, .bool false], .slice none 0 0, .int .i64 (K : Int)])) := by
  refine ⟨none, 0, 0, ?_, ?_, Nat.le_refl _, by unfold maxLen; omega, hb⟩
  · unfold parseS parseB
    rw [if_neg h, if_neg h, decide_eq_false (fun hh => h hh.1)]
    rfl
  · unfold parseR
    rw [if_neg h]
    exact IsB.nil _ _ _
end Udp
end Go.Proofs.YtcpokkkdmenmgaaGreatDoor
/- addr: digits of a number. Conditions: base 10 or 16, a number of 64 bits. -/
namespace Go.Proofs.YtcpokkkdmenmgaaGreatDoor
open Go.RowKit Go.ChangeShapes Go.WideShapes Go.ChangeAt Go.Deep
namespace Addr05
def hexC (d : Nat) : UInt8 := if d < 10 then UInt8.ofNat (48 + d) else UInt8.ofNat (87 + d)
/-- The digits of a number, at most so many. -/
def digF (b : Nat) : Nat → Nat → List UInt8
  | 0, _ => []
  | k + 1, n => if n < b then [hexC n] else digF b k (n / b) ++ [hexC (n % b)]
def digL (b n : Nat) : List UInt8 := digF b 20 n
theorem hex_get : ∀ (d : Nat) (h : d < 16), (ByteArray.mk #[48, 49, 50, 51, 52, 53, 54, 55, 56, 57, 97, 98, 99, 100, 101, 102])[d]'h = hexC d := by decide
theorem digF_lt {b k n : Nat} (h : n < b) : digF b (k + 1) n = [hexC n] := by rw [digF, if_pos h]
theorem digF_ge {b k n : Nat} (h : ¬ n < b) : digF b (k + 1) n = digF b k (n / b) ++ [hexC (n % b)] := by rw [digF, if_neg h]
set_option maxRecDepth 20000 in
set_option maxHeartbeats 4000000 in
theorem digits_any (b : Nat) (hb : b = 10 ∨ b = 16) (n : Nat) (hn : n < 18446744073709551616) (w : World) :
    Calls Tryz.prog 87 #[.int .u64 (n : Int), .int .u64 (b : Int)] w fun e w' => e = .returned (.string (str (digL b n))) ∧ Below w.heap.size w w' := by
  go_enter Tryz.func87, Tryz.ntmps87
  go_wp2_with fail
  go_loopw [0, 5] (fun nv bv wr => ∃ (j m : Nat) (acc : List UInt8), j < 20 ∧ nv = .int .u64 (m : Int) ∧ m ≤ n ∧ m < b ^ (20 - j) ∧ digF b (20 - j) m ++ acc = digL b n ∧ acc.length = j ∧ OwnB wr w.heap.size bv acc ∧ Below w.heap.size w wr) (fun nv _ _ => (intOf nv).toNat)
  case atStart => exact ⟨0, n, [], by omega, rfl, Nat.le_refl _, by rcases hb with rfl | rfl <;> omega, by simp [digL], rfl, OwnB.nil _ _, Below.refl _ _⟩
  case round =>
    obtain ⟨j, m, acc, hj, rfl, hmn, hm, hd, hl, ho, hB⟩ := hrel
    have hb0 : ((b : Int) == 0) = false := by rw [beq_eq_false_iff_ne]; omega
    have hm0 : (m : Int) % (b : Int) = ((m % b : Nat) : Int) := by omega
    obtain ⟨d, hdd⟩ : ∃ d, m % b = d := ⟨_, rfl⟩
    have hd16 : d < 16 := by rw [← hdd]; have := Nat.mod_lt m (show 0 < b by omega); omega
    rw [hdd] at hm0
    have i1 : (0 : Int) ≤ (d : Int) := by omega
    have i2 : (d : Int) < 16 := by omega
    replace hd := hide hd
    replace ho := hide ho
    replace hB := hide hB
    obtain ⟨Ab, cb, rfl, hcb, hmb, hib⟩ := ho.out.form
    have hal := hl
    replace hib := hide hib
    replace hl := hide hl
    go_wp2_with (at_builtin; refine wpl_src_bv rfl (.tmp 10) (.tmp 11) rfl wr.heap.size (.slice (some ⟨wr.heap.size, 0, none⟩) 1 1) [hexC d] acc Ab acc.length cb wr.heap.size rfl rfl ?_ ?_ ?_ ?_ ?_)
    · exact OwnB.litv wr wr.heap.size _ [hexC d] 1 (by rw [hex_get d hd16]; rfl) rfl (Nat.le_refl _) (by omega)
    · exact hib.out.below ((Below.refl _ _).alloc (Nat.le_refl _) _)
    · first | omega | simp
    · rw [List.length_singleton]; omega
    intro v2 w2 hown2 hg2
    have hb2 : Below wr.heap.size wr w2 := ((Below.refl _ _).alloc (Nat.le_refl _) _).trans (hg2.below (OwnB.litv wr wr.heap.size _ [hexC d] 1 (by rw [hex_get d hd16]; rfl) rfl (Nat.le_refl _) (by omega)) (by simp))
    obtain ⟨q, hq⟩ : ∃ q, m / b = q := ⟨_, rfl⟩
    have hq0 : (m : Int) / (b : Int) = (q : Int) := by rw [← hq]; rfl
    have hsz := hB.out.size
    have hB2 := hB.out.trans (hb2.mono hsz)
    obtain ⟨t, ht⟩ : ∃ t, hexC d :: acc = t := ⟨_, rfl⟩
    have htl : t.length = j + 1 := by rw [← ht, List.length_cons, hl.out]
    rw [ht] at hown2
    obtain ⟨A2, c2, hv2, hc2, hm2, hi2⟩ := hown2.form
    rw [htl] at hv2 hc2 hi2
    subst hv2
    have hst := hi2.str c2
    have ho2 := hown2.weaken hsz
    have hqm : q ≤ m := by rw [← hq]; exact Nat.div_le_self _ _
    have wq := wrapsu64 (q : Int) (by omega) (by omega)
    clear hown2 hg2 hib ho
    have hmb1 : m < b ↔ q = 0 := by
      rw [← hq, Nat.div_eq_zero_iff]
      omega
    replace hi2 := hide hi2
    replace hb2 := hide hb2
    replace hB2 := hide hB2
    replace ho2 := hide ho2
    replace hd := hide hd
    replace ht := hide ht
    replace hqm := hide hqm
    replace hmb1 := hide hmb1
    replace hq := hide hq
    by_cases hz : q = 0
    · have t0 : ((q : Int) == 0) = true := by rw [hz]; rfl
      go_wp2_with fail
      go_ret
      refine ⟨?_, hB2.out⟩
      obtain ⟨i, hi⟩ : ∃ i, 20 - j = i + 1 := ⟨19 - j, by omega⟩
      have h1 := hd.out.out
      have h2 := hmb1.out.2 hz
      rw [hi, digF_lt h2] at h1
      rw [Nat.mod_eq_of_lt h2] at hdd
      subst hdd
      have h3 : t = digL b n := by rw [← h1, ← ht.out]; rfl
      rw [← h3]
      rfl
    · have t0 : ((q : Int) == 0) = false := by rw [beq_eq_false_iff_ne]; omega
      go_wp2_with fail
      have hge : ¬ m < b := fun h => hz (hmb1.out.1 h)
      have hj19 : j < 19 := by
        rcases Nat.lt_or_ge j 19 with h | h
        · exact h
        · have e : j = 19 := by omega
          rw [e] at hm
          exact absurd (by simpa using hm) hge
      obtain ⟨i, hi⟩ : ∃ i, 19 - j = i + 1 := ⟨18 - j, by omega⟩
      have e2 : 20 - j = (19 - j) + 1 := by omega
      have e3 : 20 - (j + 1) = 19 - j := by omega
      have h1 := hd.out.out
      rw [e2, digF_ge hge, hq.out, hdd, List.append_assoc] at h1
      rw [e2, Nat.pow_succ] at hm
      refine ⟨⟨j + 1, q, t, by omega, rfl, Nat.le_trans hqm.out hmn, ?_, ?_, htl, ho2.out, hB2.out⟩, ?_⟩
      · rw [e3, ← hq.out]
        exact Nat.div_lt_of_lt_mul (by rw [Nat.mul_comm]; exact hm)
      · rw [e3, ← h1, ← ht.out]; rfl
      · have := hq.out
        have hlt : q < m := by
          rw [← this]
          exact Nat.div_lt_self (by rcases hb with rfl | rfl <;> omega) (by rcases hb with rfl | rfl <;> omega)
        simpa [intOf] using hlt
/-- The digits of small numbers, written out. -/
theorem dig10 (n : Nat) (h : n ≤ 255) : digL 10 n = if n < 10 then [hexC n] else if n < 100 then [hexC (n / 10), hexC (n % 10)] else [hexC (n / 100), hexC (n / 10 % 10), hexC (n % 10)] := by
  unfold digL
  by_cases h1 : n < 10
  · rw [digF_lt h1, if_pos h1]
  · rw [digF_ge h1, if_neg h1]
    by_cases h2 : n < 100
    · rw [digF_lt (by omega), if_pos h2]; rfl
    · rw [digF_ge (by omega), digF_lt (by omega), if_neg h2, Nat.div_div_eq_div_mul]; rfl
theorem dig16 (n : Nat) (h : n ≤ 65535) : digL 16 n = if n < 16 then [hexC n] else if n < 256 then [hexC (n / 16), hexC (n % 16)] else if n < 4096 then [hexC (n / 256), hexC (n / 16 % 16), hexC (n % 16)] else [hexC (n / 4096), hexC (n / 256 % 16), hexC (n / 16 % 16), hexC (n % 16)] := by
  unfold digL
  by_cases h1 : n < 16
  · rw [digF_lt h1, if_pos h1]
  · rw [digF_ge h1, if_neg h1]
    by_cases h2 : n < 256
    · rw [digF_lt (by omega), if_pos h2]; rfl
    · rw [digF_ge (by omega), if_neg h2]
      by_cases h3 : n < 4096
      · rw [digF_lt (by omega), if_pos h3, Nat.div_div_eq_div_mul]; rfl
      · rw [digF_ge (by omega), digF_lt (by omega), if_neg h3]
        simp only [Nat.div_div_eq_div_mul]
        rfl
end Addr05
end Go.Proofs.YtcpokkkdmenmgaaGreatDoor
/- law05: digits of a number. Conditions: base 10 or 16, a number of 64 bits. -/
namespace Go.Proofs.YtcpokkkdmenmgaaGreatDoor
open Go.RowKit Go.ChangeShapes Go.WideShapes Go.ChangeAt Go.Deep
namespace Addr05
theorem hex_slice : ∀ (d : Nat), d < 16 → (ByteArray.mk #[48, 49, 50, 51, 52, 53, 54, 55, 56, 57, 97, 98, 99, 100, 101, 102]).extract d (d + 1) = str [hexC d] := by decide
theorem str_append (a b : List UInt8) : str a ++ str b = str (a ++ b) := by
  unfold str
  apply ByteArray.ext
  simp
end Addr05
end Go.Proofs.YtcpokkkdmenmgaaGreatDoor
/- Contracts of strings, laid at this program off the shelf. Conditions: as each says. -/
namespace Go.Proofs.YtcpokkkdmenmgaaGreatDoor
open Go.Shelf
def Tryz.lays156_ren : Go.Shelf.Ren := ⟨fun | 156 => 88 | 165 => 95 | 166 => 96 | 169 => 97 | 240 => 98 | 241 => 99 | 276 => 100 | 277 => 101 | n => n, fun | 31 => 99 | 9 => 9 | 3 => 3 | 4 => 4 | 0 => 0 | 20 => 20 | 72 => 161 | 76 => 165 | 70 => 159 | 37 => 137 | 75 => 164 | 127 => 172 | 164 => 173 | 5 => 5 | 80 => 167 | n => n, fun | n => n⟩
theorem Tryz.lays156 : Go.Proofs.Lays.n156 Tryz.prog Tryz.lays156_ren := {
  mixed := by kernel_rfl
  f156 := Tryz.func88.trans (congrArg some (by kernel_rfl))
  f165 := Tryz.func95.trans (congrArg some (by kernel_rfl))
  f166 := Tryz.func96.trans (congrArg some (by kernel_rfl))
  f169 := Tryz.func97.trans (congrArg some (by kernel_rfl))
  f240 := Tryz.func98.trans (congrArg some (by kernel_rfl))
  f241 := Tryz.func99.trans (congrArg some (by kernel_rfl))
  f276 := Tryz.func100.trans (congrArg some (by kernel_rfl))
  f277 := Tryz.func101.trans (congrArg some (by kernel_rfl))
  t0 := Tryz.underlying0
  a0 := Tryz.isAgg0
  z0 := Tryz.sizeOf0
  v0 := Tryz.zeroValue0
  t3 := Tryz.underlying3
  a3 := Tryz.isAgg3
  z3 := Tryz.sizeOf3
  v3 := Tryz.zeroValue3
  t4 := Tryz.underlying4
  a4 := Tryz.isAgg4
  z4 := Tryz.sizeOf4
  v4 := Tryz.zeroValue4
  t9 := Tryz.underlying9
  a9 := Tryz.isAgg9
  z9 := Tryz.sizeOf9
  v9 := Tryz.zeroValue9
  t20 := Tryz.underlying20
  a20 := Tryz.isAgg20
  z20 := Tryz.sizeOf20
  v20 := Tryz.zeroValue20
  t31 := Tryz.underlying99
  a31 := Tryz.isAgg99
  z31 := Tryz.sizeOf99
  v31 := Tryz.zeroValue99
  t37 := Tryz.underlying137
  a37 := Tryz.isAgg137
  z37 := Tryz.sizeOf137
  v37 := Tryz.zeroValue137
  t70 := Tryz.underlying159
  a70 := Tryz.isAgg159
  z70 := Tryz.sizeOf159
  v70 := Tryz.zeroValue159
  t72 := Tryz.underlying161
  a72 := Tryz.isAgg161
  z72 := Tryz.sizeOf161
  v72 := Tryz.zeroValue161
  t75 := Tryz.underlying164
  a75 := Tryz.isAgg164
  z75 := Tryz.sizeOf164
  v75 := Tryz.zeroValue164
  t76 := Tryz.underlying165
  a76 := Tryz.isAgg165
  z76 := Tryz.sizeOf165
  v76 := Tryz.zeroValue165
  t127 := Tryz.underlying172
  a127 := Tryz.isAgg172
  z127 := Tryz.sizeOf172
  v127 := Tryz.zeroValue172
  t164 := Tryz.underlying173
  a164 := Tryz.isAgg173
  z164 := Tryz.sizeOf173
  v164 := Tryz.zeroValue173 }
theorem Tryz.Builder_Extra_156 : Builder.Extra Tryz.prog Tryz.lays156_ren := {
  sizeBuilder := by kernel_rfl
  liesBuilder := by kernel_rfl
  t5 := Tryz.underlying5
  a5 := Tryz.isAgg5
  z5 := Tryz.sizeOf5
  v5 := Tryz.zeroValue5
  infoByte := by kernel_rfl
  cellsByte := by kernel_rfl
  sizeByte := by kernel_rfl
  neB5 := by decide }
open Go.RowKit in
theorem Tryz.strings_Join_none (a : Option Addr) (c : Nat) (sep : ByteArray) (w : World) :
    Calls Tryz.prog 88 #[.slice a 0 c, .string sep] w fun e w' => e = .returned (.string ⟨#[]⟩) ∧ w' = w := Any.strings_Join_none Tryz.lays156 Tryz.Builder_Extra_156 a c sep w
open Go.RowKit in
theorem Tryz.strings_Join (bk o c : Nat) (xs : List ByteArray) (sep : ByteArray) (w : World) (hcells : ∀ (j : Nat) x, xs[j]? = some x → w.cell? ⟨bk, o + j, none⟩ = some (.string x)) (hbk : bk < w.heap.size) (hN : xs.length ≤ 140737488355328) (hcap : xs.length ≤ c) (hlen : (Lib.join (xs.map (·.data.toList)) sep.data.toList).length ≤ 140737488355328) :
    Calls Tryz.prog 88 #[.slice (some ⟨bk, o, none⟩) xs.length c, .string sep] w fun e w' => e = .returned (.string ⟨(Lib.join (xs.map (·.data.toList)) sep.data.toList).toArray⟩) ∧ Below w.heap.size w w' := Any.strings_Join Tryz.lays156 Tryz.Builder_Extra_156 bk o c xs sep w hcells hbk hN hcap hlen
def Tryz.lays137_ren : Go.Shelf.Ren := ⟨fun | 137 => 94 | 217 => 81 | 266 => 92 | n => n, fun | 9 => 9 | 5 => 5 | 3 => 3 | n => n, fun | n => n⟩
theorem Tryz.lays137 : Go.Proofs.Lays.n137 Tryz.prog Tryz.lays137_ren := {
  mixed := by kernel_rfl
  f137 := Tryz.func94.trans (congrArg some (by kernel_rfl))
  f217 := Tryz.func81.trans (congrArg some (by kernel_rfl))
  f266 := Tryz.func92.trans (congrArg some (by kernel_rfl))
  t3 := Tryz.underlying3
  a3 := Tryz.isAgg3
  z3 := Tryz.sizeOf3
  v3 := Tryz.zeroValue3
  t5 := Tryz.underlying5
  a5 := Tryz.isAgg5
  z5 := Tryz.sizeOf5
  v5 := Tryz.zeroValue5
  t9 := Tryz.underlying9
  a9 := Tryz.isAgg9
  z9 := Tryz.sizeOf9
  v9 := Tryz.zeroValue9 }
open Go.RowKit in
theorem Tryz.strings_IndexByte (s : ByteArray) (c : Int) (w : World) :
    Calls Tryz.prog 94 #[.string s, .int .u8 c] w fun e w' => e = .returned (.int .i64 (Lib.indexByte s.data.toList c.toNat.toUInt8)) ∧ w' = w := Any.strings_IndexByte Tryz.lays137 s c w
def Tryz.lays144_ren : Go.Shelf.Ren := ⟨fun | 144 => 73 | 143 => 70 | 219 => 71 | 217 => 81 | 225 => 82 | 224 => 83 | 267 => 84 | 266 => 92 | 314 => 93 | n => n, fun | 9 => 9 | 4 => 4 | 3 => 3 | 5 => 5 | 46 => 144 | 146 => 157 | 51 => 156 | n => n, fun | 1 => 0 | n => n⟩
theorem Tryz.lays144 : Go.Proofs.Lays.n144 Tryz.prog Tryz.lays144_ren := {
  mixed := by kernel_rfl
  f143 := Tryz.func70.trans (congrArg some (by kernel_rfl))
  f144 := Tryz.func73.trans (congrArg some (by kernel_rfl))
  f217 := Tryz.func81.trans (congrArg some (by kernel_rfl))
  f219 := Tryz.func71.trans (congrArg some (by kernel_rfl))
  f224 := Tryz.func83.trans (congrArg some (by kernel_rfl))
  f225 := Tryz.func82.trans (congrArg some (by kernel_rfl))
  f266 := Tryz.func92.trans (congrArg some (by kernel_rfl))
  f267 := Tryz.func84.trans (congrArg some (by kernel_rfl))
  f314 := Tryz.func93.trans (congrArg some (by kernel_rfl))
  t3 := Tryz.underlying3
  a3 := Tryz.isAgg3
  z3 := Tryz.sizeOf3
  v3 := Tryz.zeroValue3
  t4 := Tryz.underlying4
  a4 := Tryz.isAgg4
  z4 := Tryz.sizeOf4
  v4 := Tryz.zeroValue4
  t5 := Tryz.underlying5
  a5 := Tryz.isAgg5
  z5 := Tryz.sizeOf5
  v5 := Tryz.zeroValue5
  t9 := Tryz.underlying9
  a9 := Tryz.isAgg9
  z9 := Tryz.sizeOf9
  v9 := Tryz.zeroValue9
  t46 := Tryz.underlying144
  a46 := Tryz.isAgg144
  z46 := Tryz.sizeOf144
  v46 := Tryz.zeroValue144
  t51 := Tryz.underlying156
  a51 := Tryz.isAgg156
  z51 := Tryz.sizeOf156
  v51 := Tryz.zeroValue156
  t146 := Tryz.underlying157
  a146 := Tryz.isAgg157
  z146 := Tryz.sizeOf157
  v146 := Tryz.zeroValue157
  g1 := by kernel_rfl }
open Go.RowKit Go.Lib in
theorem Tryz.strings_Contains_one (s : ByteArray) (c : UInt8) (w : World) :
    Calls Tryz.prog 73 #[.string s, .string ⟨#[c]⟩] w fun e w' => e = .returned (.bool (decide (0 ≤ Lib.indexByte s.data.toList c))) ∧ w' = w := Any.strings_Contains_one Tryz.lays144 s c w
def Tryz.lays145_ren : Go.Shelf.Ren := ⟨fun | 145 => 44 | 220 => 58 | 219 => 71 | 217 => 81 | 225 => 82 | 224 => 83 | 267 => 84 | 266 => 92 | 314 => 93 | n => n, fun | 9 => 9 | 4 => 4 | 59 => 113 | 3 => 3 | 5 => 5 | 46 => 144 | 146 => 157 | 51 => 156 | n => n, fun | 1 => 0 | n => n⟩
theorem Tryz.lays145 : Go.Proofs.Lays.n145 Tryz.prog Tryz.lays145_ren := {
  mixed := by kernel_rfl
  f145 := Tryz.func44.trans (congrArg some (by kernel_rfl))
  f217 := Tryz.func81.trans (congrArg some (by kernel_rfl))
  f219 := Tryz.func71.trans (congrArg some (by kernel_rfl))
  f220 := Tryz.func58.trans (congrArg some (by kernel_rfl))
  f224 := Tryz.func83.trans (congrArg some (by kernel_rfl))
  f225 := Tryz.func82.trans (congrArg some (by kernel_rfl))
  f266 := Tryz.func92.trans (congrArg some (by kernel_rfl))
  f267 := Tryz.func84.trans (congrArg some (by kernel_rfl))
  f314 := Tryz.func93.trans (congrArg some (by kernel_rfl))
  t3 := Tryz.underlying3
  a3 := Tryz.isAgg3
  z3 := Tryz.sizeOf3
  v3 := Tryz.zeroValue3
  t4 := Tryz.underlying4
  a4 := Tryz.isAgg4
  z4 := Tryz.sizeOf4
  v4 := Tryz.zeroValue4
  t5 := Tryz.underlying5
  a5 := Tryz.isAgg5
  z5 := Tryz.sizeOf5
  v5 := Tryz.zeroValue5
  t9 := Tryz.underlying9
  a9 := Tryz.isAgg9
  z9 := Tryz.sizeOf9
  v9 := Tryz.zeroValue9
  t46 := Tryz.underlying144
  a46 := Tryz.isAgg144
  z46 := Tryz.sizeOf144
  v46 := Tryz.zeroValue144
  t51 := Tryz.underlying156
  a51 := Tryz.isAgg156
  z51 := Tryz.sizeOf156
  v51 := Tryz.zeroValue156
  t59 := Tryz.underlying113
  a59 := Tryz.isAgg113
  z59 := Tryz.sizeOf113
  v59 := Tryz.zeroValue113
  t146 := Tryz.underlying157
  a146 := Tryz.isAgg157
  z146 := Tryz.sizeOf157
  v146 := Tryz.zeroValue157
  g1 := by kernel_rfl }
open Go.RowKit Go.Lib in
theorem Tryz.strings_Cut (s sep : ByteArray) (m : Int) (w : World) (hs : s.size < 4294967281) (hm : w.cell? ⟨0, 0, none⟩ = some (.int .i64 m)) :
    Calls Tryz.prog 44 #[.string s, .string sep] w fun e w' => e = .returned (.tuple #[.string ⟨(Lib.cut s.data.toList sep.data.toList).1.toArray⟩, .string ⟨(Lib.cut s.data.toList sep.data.toList).2.1.toArray⟩, .bool (Lib.cut s.data.toList sep.data.toList).2.2]) ∧ ∃ n, w' = w.drewN n := Any.strings_Cut Tryz.lays145 s sep m w hs hm
def Tryz.lays146_ren : Go.Shelf.Ren := ⟨fun | 146 => 42 | 221 => 57 | 268 => 68 | 138 => 69 | 143 => 70 | 195 => 78 | 197 => 79 | 218 => 80 | 219 => 71 | 260 => 91 | 217 => 81 | 225 => 82 | 224 => 83 | 267 => 84 | 266 => 92 | 314 => 93 | n => n, fun | 9 => 9 | 31 => 99 | 3 => 3 | 4 => 4 | 0 => 0 | 105 => 140 | 21 => 21 | 5 => 5 | 46 => 144 | 119 => 168 | 139 => 171 | 138 => 170 | 146 => 157 | 51 => 156 | n => n, fun | 1 => 0 | 3 => 1 | 4 => 2 | n => n⟩
theorem Tryz.lays146 : Go.Proofs.Lays.n146 Tryz.prog Tryz.lays146_ren := {
  mixed := by kernel_rfl
  f138 := Tryz.func69.trans (congrArg some (by kernel_rfl))
  f143 := Tryz.func70.trans (congrArg some (by kernel_rfl))
  f146 := Tryz.func42.trans (congrArg some (by kernel_rfl))
  f195 := Tryz.func78.trans (congrArg some (by kernel_rfl))
  f197 := Tryz.func79.trans (congrArg some (by kernel_rfl))
  f217 := Tryz.func81.trans (congrArg some (by kernel_rfl))
  f218 := Tryz.func80.trans (congrArg some (by kernel_rfl))
  f219 := Tryz.func71.trans (congrArg some (by kernel_rfl))
  f221 := Tryz.func57.trans (congrArg some (by kernel_rfl))
  f224 := Tryz.func83.trans (congrArg some (by kernel_rfl))
  f225 := Tryz.func82.trans (congrArg some (by kernel_rfl))
  f260 := Tryz.func91.trans (congrArg some (by kernel_rfl))
  f266 := Tryz.func92.trans (congrArg some (by kernel_rfl))
  f267 := Tryz.func84.trans (congrArg some (by kernel_rfl))
  f268 := Tryz.func68.trans (congrArg some (by kernel_rfl))
  f314 := Tryz.func93.trans (congrArg some (by kernel_rfl))
  t0 := Tryz.underlying0
  a0 := Tryz.isAgg0
  z0 := Tryz.sizeOf0
  v0 := Tryz.zeroValue0
  t3 := Tryz.underlying3
  a3 := Tryz.isAgg3
  z3 := Tryz.sizeOf3
  v3 := Tryz.zeroValue3
  t4 := Tryz.underlying4
  a4 := Tryz.isAgg4
  z4 := Tryz.sizeOf4
  v4 := Tryz.zeroValue4
  t5 := Tryz.underlying5
  a5 := Tryz.isAgg5
  z5 := Tryz.sizeOf5
  v5 := Tryz.zeroValue5
  t9 := Tryz.underlying9
  a9 := Tryz.isAgg9
  z9 := Tryz.sizeOf9
  v9 := Tryz.zeroValue9
  t21 := Tryz.underlying21
  a21 := Tryz.isAgg21
  z21 := Tryz.sizeOf21
  v21 := Tryz.zeroValue21
  t31 := Tryz.underlying99
  a31 := Tryz.isAgg99
  z31 := Tryz.sizeOf99
  v31 := Tryz.zeroValue99
  t46 := Tryz.underlying144
  a46 := Tryz.isAgg144
  z46 := Tryz.sizeOf144
  v46 := Tryz.zeroValue144
  t51 := Tryz.underlying156
  a51 := Tryz.isAgg156
  z51 := Tryz.sizeOf156
  v51 := Tryz.zeroValue156
  t105 := Tryz.underlying140
  a105 := Tryz.isAgg140
  z105 := Tryz.sizeOf140
  v105 := Tryz.zeroValue140
  t119 := Tryz.underlying168
  a119 := Tryz.isAgg168
  z119 := Tryz.sizeOf168
  t138 := Tryz.underlying170
  a138 := Tryz.isAgg170
  z138 := Tryz.sizeOf170
  v138 := Tryz.zeroValue170
  t139 := Tryz.underlying171
  a139 := Tryz.isAgg171
  z139 := Tryz.sizeOf171
  v139 := Tryz.zeroValue171
  t146 := Tryz.underlying157
  a146 := Tryz.isAgg157
  z146 := Tryz.sizeOf157
  v146 := Tryz.zeroValue157
  g1 := by kernel_rfl
  g3 := by kernel_rfl
  g4 := by kernel_rfl }
open Go.RowKit Go.Lib in
theorem Tryz.strings_Split (s sep : ByteArray) (m : Int) (w : World) (hs : s.size < 4294967281) (hm : w.cell? ⟨0, 0, none⟩ = some (.int .i64 m)) (h1 : 1 ≤ sep.size) :
    Calls Tryz.prog 42 #[.string s, .string sep] w fun e w' =>
      e = .returned (.slice (some ⟨w.heap.size, 0, none⟩) (Lib.countB s sep + 1) (Lib.countB s sep + 1)) ∧ w' = w.alloc (.cells ((Lib.splitB sep 0 (Lib.countB s sep) s).map Value.string).toArray 9) := Any.strings_Split Tryz.lays146 (by kernel_rfl) s sep m w hs hm h1
end Go.Proofs.YtcpokkkdmenmgaaGreatDoor
/- tcp.Parse, by contract. Conditions: slices of bytes that read as lists, at most 2^40 bytes. -/
namespace Go.Proofs.YtcpokkkdmenmgaaGreatDoor
open Go.RowKit Go.ChangeShapes Go.WideShapes Go.ChangeAt Go.Deep
theorem set8all {w : World} {g : Nat} {t : TypeId} {a0 a1 a2 a3 a4 a5 a6 a7 : Value} (h : w.heap[g]? = some (.cells #[a0, a1, a2, a3, a4, a5, a6, a7] t (0, 0))) (v0 v1 v2 v3 v4 v5 v6 v7 : Value) : ∃ w', ((((((((w.setCell ⟨g, 0, none⟩ v0).setCell ⟨g, 1, none⟩ v1).setCell ⟨g, 2, none⟩ v2).setCell ⟨g, 3, none⟩ v3).setCell ⟨g, 4, none⟩ v4).setCell ⟨g, 5, none⟩ v5).setCell ⟨g, 6, none⟩ v6).setCell ⟨g, 7, none⟩ v7) = w' ∧ w'.heap[g]? = some (.cells #[v0, v1, v2, v3, v4, v5, v6, v7] t (0, 0)) ∧ w.grownBy w' (some g) := by
  refine ⟨_, rfl, ?_, ?_⟩
  · simpa using (blk_set (blk_set (blk_set (blk_set (blk_set (blk_set (blk_set (blk_set h 0 v0) 1 v1) 2 v2) 3 v3) 4 v4) 5 v5) 6 v6) 7 v7)
  · iterate 8 refine grown_set ?_ rfl _
    exact grown_refl _ _
namespace Tcp
/-- Why bytes are no segment: 0 if they are one. -/
def parseK (ps xs : List UInt8) : Nat :=
  if xs.length < 20 then 2 else if (xs.getD 12 0).toNat / 16 * 4 < 20 ∨ xs.length < (xs.getD 12 0).toNat / 16 * 4 ∨ (xs.getD 12 0).toNat % 16 ≠ 0 then 11 else if Sum.ones (Sum.tot false (ps ++ xs)) = 65535 then 0 else 13
def parseS (K : Nat) (xs : List UInt8) (p : Nat) : Nat := if K = 0 then beN xs p 2 else 0
def parseF (K : Nat) (xs : List UInt8) : Nat := if K = 0 then (xs.getD 13 0).toNat else 0
abbrev hdV (sp dp seq ack fl wn ug : Int) (A : Option Addr) (n c : Nat) : Value := .agg #[.int .i64 sp, .int .i64 dp, .int .u32 seq, .int .u32 ack, .int .i64 fl, .int .i64 wn, .int .i64 ug, .slice A n c]
/-- How it ends. -/
def PEnd (K : Nat) (xs : List UInt8) (w w' : World) (e : Ending) : Prop :=
  ∃ seq ack wn ug A1 n1 c1 A2 n2 c2, e = .returned (.tuple #[hdV (parseS K xs 0 : Nat) (parseS K xs 2 : Nat) seq ack (parseF K xs : Nat) wn ug A1 n1 c1, .slice A2 n2 c2, .int .i64 (K : Int)]) ∧ Below w.heap.size w w'
theorem end_no {K : Nat} {xs : List UInt8} {w w' : World} (h : K ≠ 0) (hb : Below w.heap.size w w') : PEnd K xs w w' (.returned (.tuple #[hdV 0 0 0 0 0 0 0 none 0 0, .slice none 0 0, .int .i64 (K : Int)])) := by
  refine ⟨0, 0, 0, 0, none, 0, 0, none, 0, 0, ?_, hb⟩
  unfold parseS parseF
  rw [if_neg h, if_neg h, if_neg h]
  rfl
end Tcp
end Go.Proofs.YtcpokkkdmenmgaaGreatDoor
/- six.chain by contract: a header and those that extend it. Conditions: slices of bytes that read as lists. -/
namespace Go.Proofs.YtcpokkkdmenmgaaGreatDoor
open Go.RowKit Go.ChangeShapes Go.WideShapes Go.ChangeAt Go.Deep
theorem u64_wrap63 (n : Int) (h0 : 0 ≤ n) (h1 : n < 2 ^ 63) : IntKind.u64.wrap n = n := wrapsu64 n h0 (by omega)
theorem u64_and255 (x : Int) (h0 : 0 ≤ x) (h1 : x < 4294967296) : bits .and .u64 x 255 = x % 256 := bits_mask .u64 63 (by decide) u64_wrap63 8 (by decide) x h0 (by omega)
theorem u64_and20 (x : Int) (h0 : 0 ≤ x) (h1 : x < 4294967296) : bits .and .u64 x 1048575 = x % 1048576 := bits_mask .u64 63 (by decide) u64_wrap63 20 (by decide) x h0 (by omega)
theorem set11 {w : World} {g : Nat} {t : TypeId} {a0 a1 a2 a3 a4 a5 a6 a7 a8 a9 a10 : Value} (h : w.heap[g]? = some (.cells #[a0, a1, a2, a3, a4, a5, a6, a7, a8, a9, a10] t (0, 0))) (v0 v1 v2 v3 v4 v5 v6 v7 v8 v9 v10 : Value) :
    ∃ w', (((((((((((w.setCell ⟨g, 0, none⟩ v0).setCell ⟨g, 1, none⟩ v1).setCell ⟨g, 2, none⟩ v2).setCell ⟨g, 3, none⟩ v3).setCell ⟨g, 4, none⟩ v4).setCell ⟨g, 5, none⟩ v5).setCell ⟨g, 6, none⟩ v6).setCell ⟨g, 7, none⟩ v7).setCell ⟨g, 8, none⟩ v8).setCell ⟨g, 9, none⟩ v9).setCell ⟨g, 10, none⟩ v10) = w' ∧ w'.heap[g]? = some (.cells #[v0, v1, v2, v3, v4, v5, v6, v7, v8, v9, v10] t (0, 0)) ∧ w.grownBy w' (some g) := by
  refine ⟨_, rfl, ?_, ?_⟩
  · simpa using (blk_set (blk_set (blk_set (blk_set (blk_set (blk_set (blk_set (blk_set (blk_set (blk_set (blk_set h 0 v0) 1 v1) 2 v2) 3 v3) 4 v4) 5 v5) 6 v6) 7 v7) 8 v8) 9 v9) 10 v10)
  · iterate 11 refine grown_set ?_ rfl _
    exact grown_refl _ _
theorem own_kept {w w' : World} {base : Nat} {v : Value} {e : TypeId} {size n : Nat} {xs : List Value} {row : Option Nat} (h : w.ownsRow base e size v n xs) (hg : w.grownBy w' row) (hne : v.ownBlock = none ∨ v.ownBlock ≠ row) : w'.ownsRow base e size v n xs := World.ownsRow.kept h hg hne
theorem grown_none {w w' : World} (hb : Below w.heap.size w w') : w.grownBy w' none := ⟨hb.os, hb.tape, hb.output, hb.size, fun k hk _ => hb.block k hk⟩
theorem own_below {w w' : World} {base : Nat} {v : Value} {e : TypeId} {size n : Nat} {xs : List Value} (h : w.ownsRow base e size v n xs) (hb : Below w.heap.size w w') : w'.ownsRow base e size v n xs :=
  own_kept h (grown_none hb) (by cases v.ownBlock <;> simp)
/-- Rows of different types lie in different blocks. -/
theorem own_apart {w : World} {base base' : Nat} {v u : Value} {e e' : TypeId} {size n size' n' : Nat} {xs xs' : List Value} (h : w.ownsRow base e size v n xs) (h' : w.ownsRow base' e' size' u n' xs') (hne : e ≠ e') : v.ownBlock = none ∨ v.ownBlock ≠ u.ownBlock := by
  rcases h.2 with ⟨rfl, _⟩ | ⟨g, cap, cur, rfl, hg, hh, _⟩
  · exact .inl rfl
  · rcases h'.2 with ⟨rfl, _⟩ | ⟨g', cap', cur', rfl, hg', hh', _⟩
    · exact .inr (by intro e; cases e)
    · right
      intro e
      have : g = g' := by simpa [Value.ownBlock] using e
      subst this
      rw [hh] at hh'
      simp at hh'
      exact hne hh'.2
theorem own_not {w : World} {base : Nat} {v : Value} {e : TypeId} {size n : Nat} {xs : List Value} (h : w.ownsRow base e size v n xs) {g : Nat} (hg : g < base) : v.ownBlock = none ∨ v.ownBlock ≠ some g := by
  rcases hob : v.ownBlock with _ | k
  · exact .inl rfl
  · right
    intro e
    have h1 := (World.ownsRow.lt h k hob).1
    cases e
    omega
namespace Six
/-! ### Plain -/
def Ext.pe (e : Ext) : Int × List UInt8 := (e.k, e.xs)
def partP (acc : List (Int × List UInt8)) : List UInt8 := match acc.find? fun p => decide (p.1 = 44 ∧ p.2.length = 7) with | some p => p.2 | none => []
theorem partB_eq (es : List Ext) : partB es = partP (es.map Ext.pe) := by
  unfold partB partP
  rw [List.find?_map]
  have e : ((fun p : Int × List UInt8 => decide (p.1 = 44 ∧ p.2.length = 7)) ∘ Ext.pe) = Ext.isPart := by
    funext e
    exact decide_eq_decide.mpr Iff.rfl
  rw [e]
  rcases es.find? Ext.isPart with _ | e <;> rfl
def fragP (acc : List (Int × List UInt8)) : Nat := beN (partP acc) 1 2 / 8
/-- How long the next one is. -/
def sizeP (next : Nat) (rs : List UInt8) : Nat := if next = 44 then 8 else 8 + 8 * (rs.getD 1 0).toNat
/-- The headers that extend one. -/
def chainF : Nat → Nat → List UInt8 → List (Int × List UInt8) → Option (List (Int × List UInt8) × Nat × List UInt8)
  | 0, _, _, _ => none
  | f + 1, next, rs, acc =>
    if isB (next : Int) = false then some (acc, next, rs)
    else if acc.length = 8 ∨ rs.length < 8 then none
    else if rs.length < sizeP next rs ∨ (next = 0 ∧ 0 < acc.length) then none
    else if 0 < fragP (acc ++ [((next : Int), (rs.take (sizeP next rs)).drop 1)]) then
      (if isB ((rs.getD 0 0).toNat : Int) = true then none else some (acc ++ [((next : Int), (rs.take (sizeP next rs)).drop 1)], (rs.getD 0 0).toNat, rs.drop (sizeP next rs)))
    else chainF f (rs.getD 0 0).toNat (rs.drop (sizeP next rs)) (acc ++ [((next : Int), (rs.take (sizeP next rs)).drop 1)])
/-! ### The walk -/
/-- No header. -/
abbrev hd0 : Value := hdV 0 0 0 false 0 0 false 0 0 none 0 0 0
theorem own_weaken {w : World} {base base' : Nat} {v : Value} {e : TypeId} {size n : Nat} {xs : List Value} (h : w.ownsRow base e size v n xs) (hb : base' ≤ base) : w.ownsRow base' e size v n xs :=
  ⟨h.1, h.2.imp id fun ⟨g, cap, cur, h1, h2, h3⟩ => ⟨g, cap, cur, h1, Nat.le_trans hb h2, h3⟩⟩
section
variable {w w' : World} {base : Nat} {X : Option Addr} {xc : Nat} {es : List Ext}
end
/-- A slice's length. -/
def sliceLen : Value → Nat
  | .slice _ n _ => n
  | _ => 0
end Six
end Go.Proofs.YtcpokkkdmenmgaaGreatDoor
/- six.Quote and six.Parse by contract. Conditions: slices of bytes that read as lists. -/
namespace Go.Proofs.YtcpokkkdmenmgaaGreatDoor
open Go.RowKit Go.ChangeShapes Go.WideShapes Go.ChangeAt Go.Deep
namespace Six
/-- Why bytes quote nothing; 0: they do. -/
def quoteK (n : Nat) (xs : List UInt8) : Nat := if n < 40 then 2 else if (xs.getD 0 0).toNat / 16 ≠ 6 then 10 else if (chainF 9 (xs.getD 6 0).toNat (xs.drop 40) []).isNone then 11 else 0
def quoteR (xs : List UInt8) : Option (List (Int × List UInt8) × Nat × List UInt8) := chainF 9 (xs.getD 6 0).toNat (xs.drop 40) []
/-- Why bytes are no packet; 0: they are. -/
def parseK (n : Nat) (xs : List UInt8) : Nat := if n < 40 then 2 else if (xs.getD 0 0).toNat / 16 ≠ 6 then 10 else if n - 40 < beN xs 4 2 then 12 else if (chainF 9 (xs.getD 6 0).toNat ((xs.take (40 + beN xs 4 2)).drop 40) []).isNone then 11 else 0
def parseR (xs : List UInt8) : Option (List (Int × List UInt8) × Nat × List UInt8) := chainF 9 (xs.getD 6 0).toNat ((xs.take (40 + beN xs 4 2)).drop 40) []
theorem getD_take (xs : List UInt8) (m i : Nat) (h : i < m) : (xs.take m).getD i 0 = xs.getD i 0 := by
  simp only [List.getD, List.getElem?_take_of_lt h]
theorem beN_take (xs : List UInt8) (m p : Nat) : ∀ k, p + k ≤ m → beN (xs.take m) p k = beN xs p k
  | 0, _ => rfl
  | k + 1, h => by rw [beN, beN, beN_take xs m p k (by omega), getD_take xs m _ (by omega)]
end Six
end Go.Proofs.YtcpokkkdmenmgaaGreatDoor
/- icmp.Error and icmp.Quoted by contract. Conditions: slices of bytes that read as lists. -/
namespace Go.Proofs.YtcpokkkdmenmgaaGreatDoor
open Go.RowKit Go.ChangeShapes Go.WideShapes Go.ChangeAt Go.Deep
namespace Icmp
/-- Does a type tell of an error? -/
def errB (v6 : Bool) (k : Int) : Bool := if v6 then decide (1 ≤ k ∧ k ≤ 4) else decide (k = 3 ∨ k = 4 ∨ k = 5 ∨ k = 11 ∨ k = 12)
theorem set9 {w : World} {g : Nat} {t : TypeId} {a0 a1 a2 a3 a4 a5 a6 a7 a8 : Value} (h : w.heap[g]? = some (.cells #[a0, a1, a2, a3, a4, a5, a6, a7, a8] t (0, 0))) (v0 v1 v2 v3 v4 v5 v6 v7 v8 : Value) :
    ∃ w', (((((((((w.setCell ⟨g, 0, none⟩ v0).setCell ⟨g, 1, none⟩ v1).setCell ⟨g, 2, none⟩ v2).setCell ⟨g, 3, none⟩ v3).setCell ⟨g, 4, none⟩ v4).setCell ⟨g, 5, none⟩ v5).setCell ⟨g, 6, none⟩ v6).setCell ⟨g, 7, none⟩ v7).setCell ⟨g, 8, none⟩ v8) = w' ∧ w'.heap[g]? = some (.cells #[v0, v1, v2, v3, v4, v5, v6, v7, v8] t (0, 0)) ∧ w.grownBy w' (some g) := by
  refine ⟨_, rfl, ?_, ?_⟩
  · simpa using (blk_set (blk_set (blk_set (blk_set (blk_set (blk_set (blk_set (blk_set (blk_set h 0 v0) 1 v1) 2 v2) 3 v3) 4 v4) 5 v5) 6 v6) 7 v7) 8 v8)
  · iterate 9 refine grown_set ?_ rfl _
    exact grown_refl _ _
theorem grown_below {w w' : World} {g B : Nat} (h : w.grownBy w' (some g)) (hB : B ≤ w.heap.size) (hg : B ≤ g) : Below B w w' := below_of_grown h hB (by intro k hk; cases hk; exact hg)
theorem grown_blk {w w' : World} {g k : Nat} {x : Option Obj} (h : w.grownBy w' (some g)) (hk : k < w.heap.size) (hne : k ≠ g) (hx : w.heap[k]? = x) : w'.heap[k]? = x := (h.block k hk (by simpa using hne)).trans hx
/-- Bytes stay when a block is written whose cells they are not. -/
theorem isB_grown {w w' : World} {g B n : Nat} {A : Option Addr} {xs : List UInt8} (h : IsB w B A n xs) (hg : w.grownBy w' (some g)) (hB : B ≤ w.heap.size) {v0 : Value} (h0 : ∀ i, w.cell? ⟨g, i, none⟩ = none ∨ ∃ v, w.cell? ⟨g, i, none⟩ = some v ∧ ∀ z, v ≠ .int .u8 z) (_ : v0 = v0) : IsB w' B A n xs := by
  refine ⟨h.1, fun hn => ?_⟩
  obtain ⟨b, off, e, hb, hc⟩ := h.2 hn
  refine ⟨b, off, e, hb, fun i hi => ?_⟩
  have hne : b ≠ g := by
    rintro rfl
    have h1 := hc i hi
    rcases h0 (off + i) with h2 | ⟨v, h2, h3⟩
    · rw [h2] at h1; cases h1
    · rw [h2] at h1
      cases h1
      exact h3 _ rfl
  rw [← hc i hi]
  exact World.cell?_of_block (hg.block b (Nat.lt_of_lt_of_le hb hB) (by simpa using hne))
/-! ### What is quoted -/
/-- A flow, as a value. -/
abbrev tuV (proto : Int) (sv : Bool) (shi slo : Int) (dv : Bool) (dhi dlo sp dp : Int) : Value := .agg #[.int .i64 proto, .bool sv, .int .u64 shi, .int .u64 slo, .bool dv, .int .u64 dhi, .int .u64 dlo, .int .i64 sp, .int .i64 dp]
abbrev tu0 : Value := tuV 0 false 0 0 false 0 0 0 0
/-- What bytes quote, in version 6 or 4: why nothing (K), or what. -/
def QIs (v6 : Bool) (n : Nat) (xs : List UInt8) (K proto shi slo dhi dlo frag : Nat) (rest : List UInt8) : Prop :=
  if v6 = true then K = Six.quoteK n xs ∧ (K = 0 → ∃ acc, Six.quoteR xs = some (acc, proto, rest) ∧ frag = Six.fragP acc ∧ shi = beN xs 8 8 ∧ slo = beN xs 16 8 ∧ dhi = beN xs 24 8 ∧ dlo = beN xs 32 8)
  else K = Four.quoteK n xs ∧ (K = 0 → proto = (xs.getD 9 0).toNat ∧ shi = 0 ∧ slo = beN xs 12 4 ∧ dhi = 0 ∧ dlo = beN xs 16 4 ∧ frag = beN xs 6 2 % 8192 ∧ rest = xs.drop ((xs.getD 0 0).toNat % 16 * 4))
theorem qIs_some (v6 : Bool) (n : Nat) (xs : List UInt8) : ∃ K proto shi slo dhi dlo frag rest, QIs v6 n xs K proto shi slo dhi dlo frag rest := by
  rcases v6 with _ | _
  · exact ⟨_, _, _, _, _, _, _, _, by unfold QIs; rw [if_neg (by simp)]; exact ⟨rfl, fun _ => ⟨rfl, rfl, rfl, rfl, rfl, rfl, rfl⟩⟩⟩
  · rcases hR : Six.quoteR xs with _ | ⟨acc, next, rest⟩
    · refine ⟨Six.quoteK n xs, 0, 0, 0, 0, 0, 0, [], ?_⟩
      unfold QIs
      rw [if_pos rfl]
      refine ⟨rfl, fun h => ?_⟩
      unfold Six.quoteR at hR
      unfold Six.quoteK at h
      rw [hR] at h
      split at h
      · cases h
      · split at h <;> simp at h
    · exact ⟨_, next, _, _, _, _, _, rest, by unfold QIs; rw [if_pos rfl, hR]; exact ⟨rfl, fun _ => ⟨acc, rfl, rfl, rfl, rfl, rfl, rfl⟩⟩⟩
/-- How it ends: why there is no flow, or the flow. -/
def FlowEnd (F : Nat) (v6 : Bool) (proto shi slo dhi dlo : Nat) (rest : List UInt8) (w w' : World) (e : Ending) : Prop :=
  (F ≠ 0 → e = .returned (.tuple #[tu0, .int .i64 (F : Int)])) ∧ (F = 0 → e = .returned (.tuple #[tuV proto v6 shi slo v6 dhi dlo (beN rest 0 2 : Nat) (beN rest 2 2 : Nat), .int .i64 0])) ∧ Below w.heap.size w w'
/-- Why what is quoted is no flow; 0: it is one. -/
def flowK (frag proto len : Nat) : Nat := if 0 < frag then 21 else if proto ≠ 6 ∧ proto ≠ 17 then 14 else if len < 4 then 2 else 0
end Icmp
end Go.Proofs.YtcpokkkdmenmgaaGreatDoor
/- What icmp.Parse and icmp.Quoted make of bytes, wherever they lie: the same; icmp.Back by contract. Conditions: slices of bytes that read as lists, sizes below 2^40. -/
namespace Go.Proofs.YtcpokkkdmenmgaaGreatDoor
open Go.RowKit Go.ChangeShapes Go.WideShapes Go.ChangeAt Go.Deep
namespace Icmp
theorem chain_len : ∀ (f next : Nat) (rs : List UInt8) (acc : List (Int × List UInt8)) (r : List (Int × List UInt8) × Nat × List UInt8), Six.chainF f next rs acc = some r → r.2.2.length ≤ rs.length
  | 0, _, _, _, _, h => by simp [Six.chainF] at h
  | f + 1, next, rs, acc, r, h => by
    unfold Six.chainF at h
    split at h
    · cases h; exact Nat.le_refl _
    · split at h
      · cases h
      · split at h
        · cases h
        · split at h
          · split at h
            · cases h
            · cases h
              simp
          · have := chain_len f _ _ _ _ h
            rw [List.length_drop] at this
            omega
end Icmp
end Go.Proofs.YtcpokkkdmenmgaaGreatDoor
