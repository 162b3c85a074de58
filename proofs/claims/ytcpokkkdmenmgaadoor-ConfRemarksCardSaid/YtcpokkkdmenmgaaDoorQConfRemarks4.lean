/- mix: numbers that are mixed, and a number below another one: the code's and the document's. Conditions: numbers of 64 bits. -/
import Derived.Test.YtcpokkkdmenmgaaDoorProg
import Derived.Test.YtcpokkkdmenmgaaDoorQConfRemarks1
import Derived.Test.YtcpokkkdmenmgaaDoorQConfRemarks2
import Derived.Test.YtcpokkkdmenmgaaDoorQConfRemarks3
import Derived.Deep.CutBlock
import Derived.Deep.DeepCutAuto
import Derived.Laws.Bits64
import Derived.Lib.Mul64
import Derived.Shelf.Bits.Mul64
import Derived.Shelf.LaysM
import Derived.Shelf.Small.Strs
import Derived.Shelf.Strings.Builder1
import Derived.Shelf.Strings.Builder2
import Derived.Shelf.Strings.Count
import Derived.Shelf.Strings.Cut
import Derived.Shelf.Strings.Explode
import Derived.Shelf.Strings.OnBuilder
import Derived.Shelf.Strings.RuneCount
import Derived.Shelf.Strings.Search1
import Derived.Shelf.Strings.Search2
import Derived.Shelf.Strings.Search3
import Derived.Shelf.Strings.Shaped
import Derived.Shelf.Strings.Split
import Derived.Shelf.Strings.SplitShaped
import Derived.Shelf.Unicode.Decode
import Derived.Shelf.Unicode.DecodeAny
import Derived.Shelf.Unicode.DecodeSlow
import Derived.Shelf.Utf8.RuneCount
namespace Go.Proofs.YtcpokkkdmenmgaaDoor
open Go.RowKit Go.ChangeShapes Go.WideShapes Go.ChangeAt Go.Deep
namespace Mix
/-- A number that is mixed. -/
def shN (x : Nat) : Nat := x ^^^ x / 8589934592
def mixN (x : Nat) : Nat := shN (shN (shN x * 18397679294719823053 % 18446744073709551616) * 14181476777654086739 % 18446744073709551616)
theorem shN_lt (x : Nat) (hx : x < 18446744073709551616) : shN x < 18446744073709551616 := by
  have h := Nat.div_le_self x 8589934592
  have := Nat.xor_lt_two_pow (n := 64) (show x < 2 ^ 64 by omega) (show x / 8589934592 < 2 ^ 64 by omega)
  unfold shN
  omega
theorem mixN_lt (x : Nat) : mixN x < 18446744073709551616 := shN_lt _ (Nat.mod_lt _ (by omega))
theorem one_shape (x : Nat) (hx : x < 18446744073709551616) : bits .xor .u64 (x : Int) ((x : Int) / 8589934592) = ((shN x : Nat) : Int) := xorShift_u64 x 8589934592 hx
theorem wrapMul (x c : Nat) : IntKind.u64.wrap ((x : Int) * (c : Int)) = ((x * c % 18446744073709551616 : Nat) : Int) := by
  rw [IntKind.wrap_u64]; omega
/-- A number below another one. -/
def belN (x n : Nat) : Nat := x * n / 18446744073709551616
theorem belN_lt (x n : Nat) (hx : x < 18446744073709551616) (hn : 1 ≤ n) : belN x n < n := by
  unfold belN
  rw [Nat.div_lt_iff_lt_mul (by omega), Nat.mul_comm]
  exact Nat.mul_lt_mul_of_pos_left hx hn
theorem belN_le (x n : Nat) (hx : x < 18446744073709551616) : belN x n ≤ n := by
  rcases Nat.eq_zero_or_pos n with rfl | h
  · simp [belN]
  · have := belN_lt x n hx h
    omega
end Mix
end Go.Proofs.YtcpokkkdmenmgaaDoor
/- addr.Bytes by contract. Conditions: numbers of 64 bits. -/
namespace Go.Proofs.YtcpokkkdmenmgaaDoor
open Go.RowKit Go.ChangeShapes Go.WideShapes Go.ChangeAt Go.Deep
/-- An address's bytes. -/
def addrB (v6 : Bool) (hi lo : Nat) : List UInt8 := if v6 then beB hi 8 ++ beB lo 8 else beB lo 4
theorem addrB_length (v6 : Bool) (hi lo : Nat) : (addrB v6 hi lo).length ≤ 16 := by
  unfold addrB
  split <;> simp [beB_length]
end Go.Proofs.YtcpokkkdmenmgaaDoor
/- icmp.Parse and what its statement's text uses, by contract. Conditions: slices of bytes that read as lists. -/
namespace Go.Proofs.YtcpokkkdmenmgaaDoor
open Go.RowKit Go.ChangeShapes Go.WideShapes Go.ChangeAt Go.Deep
namespace Icmp
/-- What a message is that bytes of 8 at least are. -/
def msgV (xs : List UInt8) (A : Option Addr) (m c : Nat) : Value := .agg #[.int .i64 ((xs.getD 0 0).toNat : Nat), .int .i64 ((xs.getD 1 0).toNat : Nat), .int .u32 (beN xs 4 4 : Nat), .slice A m c]
def msg0 : Value := .agg #[.int .i64 0, .int .i64 0, .int .u32 0, .slice none 0 0]
theorem isP_two {w : World} (b : Nat) (hb : w.heap.size = b) {t : TypeId} {A P : Option Addr} {n c m d : Nat} {xs ps : List UInt8} (hx : IsB w w.heap.size A n xs) (hp : IsB w w.heap.size P m ps) (hn : n ≤ maxLen) (hm : m ≤ maxLen) :
    Sum.IsP (w.alloc (.cells #[.slice P m d, .slice A n c] t)) (w.alloc (.cells #[.slice P m d, .slice A n c] t)).heap.size (some ⟨b, 0, none⟩) 2 [⟨P, d, ps⟩, ⟨A, c, xs⟩] := by
  have e1 := hx.1
  have e2 := hp.1
  subst e1 e2 hb
  refine ⟨rfl, fun _ => ⟨w.heap.size, 0, rfl, by simp, fun i hi => ?_⟩, fun p hmem => ?_⟩
  · rw [blk_cell (blk_new _ _ _) (0 + i)]
    have hi' : i = 0 ∨ i = 1 := by simp at hi; omega
    rcases hi' with rfl | rfl <;> rfl
  · simp only [List.mem_cons, List.not_mem_nil, or_false] at hmem
    rcases hmem with rfl | rfl
    · exact ⟨hp.alloc _, hm⟩
    · exact ⟨hx.alloc _, hn⟩
end Icmp
end Go.Proofs.YtcpokkkdmenmgaaDoor
/- The small functions of layer 9, by contract: headers that extend one, as a slice that reads as a list. Conditions: slices that read as lists. -/
namespace Go.Proofs.YtcpokkkdmenmgaaDoor
open Go.RowKit Go.ChangeShapes Go.WideShapes Go.ChangeAt Go.Deep
namespace Six
/-- A header that extends one: its kind, where its bytes lie, its bytes. -/
structure Ext where
  k : Int
  A : Option Addr
  c : Nat
  xs : List UInt8
/-- Its cells. -/
def Ext.cs (e : Ext) : List Value := [.int .i64 e.k, .slice e.A e.xs.length e.c]
def cells (es : List Ext) : List Value := es.flatMap Ext.cs
theorem cells_length (es : List Ext) : (cells es).length = es.length * 2 := by
  induction es with
  | nil => rfl
  | cons e es ih => simp only [cells, List.flatMap_cons, List.length_append, Ext.cs, List.length_cons, List.length_nil] at ih ⊢; omega
theorem cells_get (es : List Ext) : ∀ (i : Nat) (h : i < es.length), (cells es)[i * 2]? = some (.int .i64 es[i].k) ∧ (cells es)[i * 2 + 1]? = some (.slice es[i].A es[i].xs.length es[i].c) := by
  induction es with
  | nil => intro i h; simp at h
  | cons e es ih =>
    intro i h
    rcases i with _ | i
    · simp [cells, Ext.cs]
    · have h1 := ih i (by simpa using h)
      have e1 : (i + 1) * 2 = i * 2 + 2 := by omega
      have e2 : (i + 1) * 2 + 1 = (i * 2 + 1) + 2 := by omega
      rw [e1]
      simp only [cells, List.flatMap_cons, Ext.cs, List.cons_append, List.nil_append] at h1 ⊢
      exact ⟨by simpa using h1.1, by simpa using h1.2⟩
/-- The slice reads as these, below block B. -/
def IsX (w : World) (B : Nat) (A : Option Addr) (n : Nat) (es : List Ext) : Prop :=
  es.length = n ∧ IsV w B 2 A n (cells es) ∧ ∀ e ∈ es, IsB w B e.A e.xs.length e.xs ∧ e.xs.length ≤ e.c ∧ e.c ≤ maxLen
section
variable {w w' : World} {B B' n : Nat} {A : Option Addr} {es : List Ext}
theorem IsX.nil (w : World) (B : Nat) (A : Option Addr) : IsX w B A 0 [] := ⟨rfl, IsV.nil _ _ _ _, fun _ h => by cases h⟩
theorem IsX.below (h : IsX w B A n es) (hb : Below B w w') : IsX w' B A n es := ⟨h.1, h.2.1.below hb, fun e he => ⟨(h.2.2 e he).1.below hb, (h.2.2 e he).2⟩⟩
theorem IsX.more (h : IsX w B A n es) (hB : B ≤ B') : IsX w B' A n es := ⟨h.1, h.2.1.more hB, fun e he => ⟨(h.2.2 e he).1.more hB, (h.2.2 e he).2⟩⟩
theorem IsX.on (h : IsX w w.heap.size A n es) (hb : Below w.heap.size w w') : IsX w' w'.heap.size A n es := (h.below hb).more hb.size
theorem IsX.later (h : IsX w w.heap.size A n es) (l : Later w) : IsX l.w l.w.heap.size A n es := h.on l.hb
theorem IsX.alloc (h : IsX w w.heap.size A n es) (o : Obj) : IsX (w.alloc o) (w.alloc o).heap.size A n es := h.on ((Below.refl _ _).alloc (Nat.le_refl _) o)
theorem IsX.at (h : IsX w B A n es) {i : Nat} (hi : i < n) : ∃ b off k Ae c xs, A = some ⟨b, off, none⟩ ∧ b < B ∧ es[i]? = some ⟨k, Ae, c, xs⟩ ∧ w.cell? ⟨b, off + i * 2, none⟩ = some (.int .i64 k) ∧ w.cell? ⟨b, off + i * 2 + 1, none⟩ = some (.slice Ae xs.length c) ∧ IsB w B Ae xs.length xs ∧ xs.length ≤ c ∧ c ≤ maxLen := by
  obtain ⟨hl, hv, hp⟩ := h
  obtain ⟨b, off, e, hb, hc⟩ := hv.2 (by omega)
  have hil : i < es.length := by omega
  have hg := cells_get es i hil
  have hcl := cells_length es
  refine ⟨b, off, es[i].k, es[i].A, es[i].c, es[i].xs, e, hb, by rw [List.getElem?_eq_getElem hil], ?_, ?_, hp _ (List.getElem_mem hil)⟩
  · rw [hc (i * 2) (by omega)]
    rw [List.getElem?_eq_getElem (by omega)] at hg
    exact hg.1
  · rw [Nat.add_assoc, hc (i * 2 + 1) (by omega)]
    have h2 := hg.2
    rw [List.getElem?_eq_getElem (by omega)] at h2
    exact h2
end
/-- Does a kind extend? -/
def isB (k : Int) : Bool := decide (k = 0 ∨ k = 43 ∨ k = 44 ∨ k = 60)
/-- A header, as a value. -/
abbrev hdV (cls lab hop : Int) (sv : Bool) (shi slo : Int) (dv : Bool) (dhi dlo : Int) (X : Option Addr) (n c : Nat) (proto : Int) : Value :=
  .agg #[.int .i64 cls, .int .i64 lab, .int .i64 hop, .bool sv, .int .u64 shi, .int .u64 slo, .bool dv, .int .u64 dhi, .int .u64 dlo, .slice X n c, .int .i64 proto]
/-- Is one the header of a part? -/
def Ext.isPart (e : Ext) : Bool := decide (e.k = 44 ∧ e.xs.length = 7)
def partB (es : List Ext) : List UInt8 := match es.find? Ext.isPart with | some e => e.xs | none => []
def partV (es : List Ext) : Value := match es.find? Ext.isPart with | some e => .slice e.A e.xs.length e.c | none => .slice none 0 0
theorem find_here {es : List Ext} {j : Nat} {e : Ext} (h0 : (es.take j).find? Ext.isPart = none) (hj : es[j]? = some e) (hp : e.isPart = true) : es.find? Ext.isPart = some e := by
  obtain ⟨hlt, rfl⟩ := List.getElem?_eq_some_iff.1 hj
  rw [show es.find? Ext.isPart = (es.take j ++ (es[j] :: es.drop (j + 1))).find? Ext.isPart from by rw [← List.drop_eq_getElem_cons hlt, List.take_append_drop], List.find?_append, h0]
  simp only [Option.none_or, List.find?_cons, hp]
theorem find_on {es : List Ext} {j : Nat} {e : Ext} (h0 : (es.take j).find? Ext.isPart = none) (hj : es[j]? = some e) (hp : e.isPart = false) : (es.take (j + 1)).find? Ext.isPart = none := by
  obtain ⟨hlt, rfl⟩ := List.getElem?_eq_some_iff.1 hj
  rw [List.take_succ_eq_append_getElem hlt, List.find?_append, h0]
  simp [hp]
theorem partV_read (es : List Ext) (w : World) (B : Nat) (h : ∀ e ∈ es, IsB w B e.A e.xs.length e.xs ∧ e.xs.length ≤ e.c ∧ e.c ≤ maxLen) : ∃ A n c, partV es = .slice A n c ∧ IsB w B A n (partB es) ∧ n ≤ maxLen := by
  unfold partV partB
  rcases hf : es.find? Ext.isPart with _ | e
  · exact ⟨none, 0, 0, rfl, IsB.nil _ _ _, by unfold maxLen; omega⟩
  · have hm := h e (List.mem_of_find?_eq_some hf)
    exact ⟨e.A, _, e.c, rfl, hm.1, by omega⟩
end Six
end Go.Proofs.YtcpokkkdmenmgaaDoor
/- four.raw: the header that bytes are, by contract. Conditions: slices of bytes that read as lists, a header's length that lies within. -/
namespace Go.Proofs.YtcpokkkdmenmgaaDoor
open Go.RowKit Go.ChangeShapes Go.WideShapes Go.ChangeAt Go.Deep
theorem below_set {n : Nat} {a b : World} (h : Below n a b) {p : Addr} (hp : p.block = n) (u : Value) : Below n a (b.setCell p u) := h.setCell (Nat.le_of_eq hp.symm) u
namespace Four
/-- The header that bytes are. -/
abbrev rawV (xs : List UInt8) (A : Option Addr) (n c : Nat) : Value :=
  hdV ((xs.getD 1 0).toNat : Nat) (beN xs 4 2 : Nat) (decide (beN xs 6 2 / 16384 % 2 = 1)) (decide (beN xs 6 2 / 8192 % 2 = 1)) (beN xs 6 2 % 8192 : Nat) ((xs.getD 8 0).toNat : Nat) ((xs.getD 9 0).toNat : Nat)
    false 0 (beN xs 12 4 : Nat) false 0 (beN xs 16 4 : Nat) A n c
end Four
end Go.Proofs.YtcpokkkdmenmgaaDoor
/- four.Parse and what says why bytes are no packet, by contract, a theorem a branch. Conditions: slices of bytes that read as lists. -/
namespace Go.Proofs.YtcpokkkdmenmgaaDoor
open Go.RowKit Go.ChangeShapes Go.WideShapes Go.ChangeAt Go.Deep
namespace Four
/-- No header. -/
abbrev hd0 : Value := hdV 0 0 false false 0 0 0 false 0 0 false 0 0 none 0 0
theorem isP_one {w : World} (b : Nat) (hb : w.heap.size = b) {t : TypeId} {A : Option Addr} {n c : Nat} {xs : List UInt8} (hx : IsB w w.heap.size A n xs) (hn : n ≤ maxLen) :
    Sum.IsP (w.alloc (.cells #[.slice A n c] t)) (w.alloc (.cells #[.slice A n c] t)).heap.size (some ⟨b, 0, none⟩) 1 [⟨A, c, xs⟩] := by
  have e1 := hx.1
  subst e1 hb
  refine ⟨rfl, fun _ => ⟨w.heap.size, 0, rfl, by simp, fun i hi => ?_⟩, fun p hmem => ?_⟩
  · rw [blk_cell (blk_new _ _ _) (0 + i)]
    obtain rfl : i = 0 := by simp at hi; omega
    rfl
  · simp only [List.mem_cons, List.not_mem_nil, or_false] at hmem
    subst hmem
    exact ⟨hx.alloc _, hn⟩
end Four
end Go.Proofs.YtcpokkkdmenmgaaDoor
/- four.Quote by contract; and the pseudo header. Conditions: slices of bytes that read as lists. -/
namespace Go.Proofs.YtcpokkkdmenmgaaDoor
open Go.RowKit Go.ChangeShapes Go.WideShapes Go.ChangeAt Go.Deep
namespace Four
/-- Why bytes quote nothing; 0: they do. -/
def quoteK (n : Nat) (xs : List UInt8) : Nat := if n < 20 then 2 else if (xs.getD 0 0).toNat / 16 ≠ 4 then 10 else if (xs.getD 0 0).toNat % 16 * 4 < 20 ∨ n < (xs.getD 0 0).toNat % 16 * 4 then 11 else 0
end Four
end Go.Proofs.YtcpokkkdmenmgaaDoor
/- udp.Parse, by contract. Conditions: slices of bytes that read as lists, at most 2^40 bytes. -/
namespace Go.Proofs.YtcpokkkdmenmgaaDoor
open Go.RowKit Go.ChangeShapes Go.WideShapes Go.ChangeAt Go.Deep
namespace Udp
/-- Why bytes are no datagram: 0 if they are one. -/
def parseK (bare : Bool) (ps xs : List UInt8) : Nat :=
  if xs.length < 8 then 2 else if beN xs 4 2 ≠ xs.length then 12 else if beN xs 6 2 = 0 then (if bare = true then 0 else 13) else if Sum.ones (Sum.tot false (ps ++ xs)) = 65535 then 0 else 13
def parseS (K : Nat) (xs : List UInt8) (p : Nat) : Nat := if K = 0 then beN xs p 2 else 0
def parseB (K : Nat) (xs : List UInt8) : Bool := decide (K = 0 ∧ beN xs 6 2 = 0)
def parseR (K : Nat) (xs : List UInt8) : List UInt8 := if K = 0 then xs.drop 8 else []
/-- How it ends. -/
def PEnd (K : Nat) (xs : List UInt8) (w w' : World) (e : Ending) : Prop :=
  ∃ A' m' c', e = .returned (.tuple #[.agg #[.int .i64 (parseS K xs 0 : Nat), .int .i64 (parseS K xs 2 : Nat), .bool (parseB K xs)], .slice A' m' c', .int .i64 (K : Int)]) ∧ IsB w' w'.heap.size A' m' (parseR K xs) ∧ m' ≤ c' ∧ c' ≤ maxLen ∧ Below w.heap.size w w'
theorem end_no {K : Nat} {xs : List UInt8} {w w' : World} (h : K ≠ 0) (hb : Below w.heap.size w w') : PEnd K xs w w' (.returned (.tuple #[.agg #[.int .i64 0, .int .i64 0, .bool false], .slice none 0 0, .int .i64 (K : Int)])) := by
  refine ⟨none, 0, 0, ?_, ?_, Nat.le_refl _, by unfold maxLen; omega, hb⟩
  · unfold parseS parseB
    rw [if_neg h, if_neg h, decide_eq_false (fun hh => h hh.1)]
    rfl
  · unfold parseR
    rw [if_neg h]
    exact IsB.nil _ _ _
end Udp
end Go.Proofs.YtcpokkkdmenmgaaDoor
/- addr: digits of a number. Conditions: base 10 or 16, a number of 64 bits. -/
namespace Go.Proofs.YtcpokkkdmenmgaaDoor
open Go.RowKit Go.ChangeShapes Go.WideShapes Go.ChangeAt Go.Deep
namespace Addr05
def hexC (d : Nat) : UInt8 := if d < 10 then UInt8.ofNat (48 + d) else UInt8.ofNat (87 + d)
/-- The digits of a number, at most so many. -/
def digF (b : Nat) : Nat → Nat → List UInt8
  | 0, _ => []
  | k + 1, n => if n < b then [hexC n] else digF b k (n / b) ++ [hexC (n % b)]
def digL (b n : Nat) : List UInt8 := digF b 20 n
theorem hex_get : ∀ (d : Nat) (h : d < 16), (ByteArray.mk #[48, 49, 50, 51, 52, 53, 54, 55, 56, 57, 97, 98, 99, 100, 101, 102])[d]'h = hexC d := by decide
theorem digF_lt {b k n : Nat} (h : n < b) : digF b (k + 1) n = [hexC n] := by rw [digF, if_pos h]
theorem digF_ge {b k n : Nat} (h : ¬ n < b) : digF b (k + 1) n = digF b k (n / b) ++ [hexC (n % b)] := by rw [digF, if_neg h]
set_option maxRecDepth 20000 in
set_option maxHeartbeats 4000000 in
theorem digits_any (b : Nat) (hb : b = 10 ∨ b = 16) (n : Nat) (hn : n < 18446744073709551616) (w : World) :
    Calls Tryd.prog 49 #[.int .u64 (n : Int), .int .u64 (b : Int)] w fun e w' => e = .returned (.string (str (digL b n))) ∧ Below w.heap.size w w' := by
  go_enter Tryd.func49, Tryd.ntmps49
  go_wp2_with fail
  go_loopw [0, 5] (fun nv bv wr => ∃ (j m : Nat) (acc : List UInt8), j < 20 ∧ nv = .int .u64 (m : Int) ∧ m ≤ n ∧ m < b ^ (20 - j) ∧ digF b (20 - j) m ++ acc = digL b n ∧ acc.length = j ∧ OwnB wr w.heap.size bv acc ∧ Below w.heap.size w wr) (fun nv _ _ => (intOf nv).toNat)
  case atStart => exact ⟨0, n, [], by omega, rfl, Nat.le_refl _, by rcases hb with rfl | rfl <;> omega, by simp [digL], rfl, OwnB.nil _ _, Below.refl _ _⟩
  case round =>
    obtain ⟨j, m, acc, hj, rfl, hmn, hm, hd, hl, ho, hB⟩ := hrel
    have hb0 : ((b : Int) == 0) = false := by rw [beq_eq_false_iff_ne]; omega
    have hm0 : (m : Int) % (b : Int) = ((m % b : Nat) : Int) := by omega
    obtain ⟨d, hdd⟩ : ∃ d, m % b = d := ⟨_, rfl⟩
    have hd16 : d < 16 := by rw [← hdd]; have := Nat.mod_lt m (show 0 < b by omega); omega
    rw [hdd] at hm0
    have i1 : (0 : Int) ≤ (d : Int) := by omega
    have i2 : (d : Int) < 16 := by omega
    replace hd := hide hd
    replace ho := hide ho
    replace hB := hide hB
    obtain ⟨Ab, cb, rfl, hcb, hmb, hib⟩ := ho.out.form
    have hal := hl
    replace hib := hide hib
    replace hl := hide hl
    go_wp2_with (at_builtin; refine wpl_src_bv rfl (.tmp 10) (.tmp 11) rfl wr.heap.size (.slice (some ⟨wr.heap.size, 0, none⟩) 1 1) [hexC d] acc Ab acc.length cb wr.heap.size rfl rfl ?_ ?_ ?_ ?_ ?_)
    · exact OwnB.litv wr wr.heap.size _ [hexC d] 1 (by rw [hex_get d hd16]; rfl) rfl (Nat.le_refl _) (by omega)
    · exact hib.out.below ((Below.refl _ _).alloc (Nat.le_refl _) _)
    · first | omega | simp
    · rw [List.length_singleton]; omega
    intro v2 w2 hown2 hg2
    have hb2 : Below wr.heap.size wr w2 := ((Below.refl _ _).alloc (Nat.le_refl _) _).trans (hg2.below (OwnB.litv wr wr.heap.size _ [hexC d] 1 (by rw [hex_get d hd16]; rfl) rfl (Nat.le_refl _) (by omega)) (by simp))
    obtain ⟨q, hq⟩ : ∃ q, m / b = q := ⟨_, rfl⟩
    have hq0 : (m : Int) / (b : Int) = (q : Int) := by rw [← hq]; rfl
    have hsz := hB.out.size
    have hB2 := hB.out.trans (hb2.mono hsz)
    obtain ⟨t, ht⟩ : ∃ t, hexC d :: acc = t := ⟨_, rfl⟩
    have htl : t.length = j + 1 := by rw [← ht, List.length_cons, hl.out]
    rw [ht] at hown2
    obtain ⟨A2, c2, hv2, hc2, hm2, hi2⟩ := hown2.form
    rw [htl] at hv2 hc2 hi2
    subst hv2
    have hst := hi2.str c2
    have ho2 := hown2.weaken hsz
    have hqm : q ≤ m := by rw [← hq]; exact Nat.div_le_self _ _
    have wq := wrapsu64 (q : Int) (by omega) (by omega)
    clear hown2 hg2 hib ho
    have hmb1 : m < b ↔ q = 0 := by
      rw [← hq, Nat.div_eq_zero_iff]
      omega
    replace hi2 := hide hi2
    replace hb2 := hide hb2
    replace hB2 := hide hB2
    replace ho2 := hide ho2
    replace hd := hide hd
    replace ht := hide ht
    replace hqm := hide hqm
    replace hmb1 := hide hmb1
    replace hq := hide hq
    by_cases hz : q = 0
    · have t0 : ((q : Int) == 0) = true := by rw [hz]; rfl
      go_wp2_with fail
      go_ret
      refine ⟨?_, hB2.out⟩
      obtain ⟨i, hi⟩ : ∃ i, 20 - j = i + 1 := ⟨19 - j, by omega⟩
      have h1 := hd.out.out
      have h2 := hmb1.out.2 hz
      rw [hi, digF_lt h2] at h1
      rw [Nat.mod_eq_of_lt h2] at hdd
      subst hdd
      have h3 : t = digL b n := by rw [← h1, ← ht.out]; rfl
      rw [← h3]
      rfl
    · have t0 : ((q : Int) == 0) = false := by rw [beq_eq_false_iff_ne]; omega
      go_wp2_with fail
      have hge : ¬ m < b := fun h => hz (hmb1.out.1 h)
      have hj19 : j < 19 := by
        rcases Nat.lt_or_ge j 19 with h | h
        · exact h
        · have e : j = 19 := by omega
          rw [e] at hm
          exact absurd (by simpa using hm) hge
      obtain ⟨i, hi⟩ : ∃ i, 19 - j = i + 1 := ⟨18 - j, by omega⟩
      have e2 : 20 - j = (19 - j) + 1 := by omega
      have e3 : 20 - (j + 1) = 19 - j := by omega
      have h1 := hd.out.out
      rw [e2, digF_ge hge, hq.out, hdd, List.append_assoc] at h1
      rw [e2, Nat.pow_succ] at hm
      refine ⟨⟨j + 1, q, t, by omega, rfl, Nat.le_trans hqm.out hmn, ?_, ?_, htl, ho2.out, hB2.out⟩, ?_⟩
      · rw [e3, ← hq.out]
        exact Nat.div_lt_of_lt_mul (by rw [Nat.mul_comm]; exact hm)
      · rw [e3, ← h1, ← ht.out]; rfl
      · have := hq.out
        have hlt : q < m := by
          rw [← this]
          exact Nat.div_lt_self (by rcases hb with rfl | rfl <;> omega) (by rcases hb with rfl | rfl <;> omega)
        simpa [intOf] using hlt
/-- The digits of small numbers, written out. -/
theorem dig10 (n : Nat) (h : n ≤ 255) : digL 10 n = if n < 10 then [hexC n] else if n < 100 then [hexC (n / 10), hexC (n % 10)] else [hexC (n / 100), hexC (n / 10 % 10), hexC (n % 10)] := by
  unfold digL
  by_cases h1 : n < 10
  · rw [digF_lt h1, if_pos h1]
  · rw [digF_ge h1, if_neg h1]
    by_cases h2 : n < 100
    · rw [digF_lt (by omega), if_pos h2]; rfl
    · rw [digF_ge (by omega), digF_lt (by omega), if_neg h2, Nat.div_div_eq_div_mul]; rfl
theorem dig16 (n : Nat) (h : n ≤ 65535) : digL 16 n = if n < 16 then [hexC n] else if n < 256 then [hexC (n / 16), hexC (n % 16)] else if n < 4096 then [hexC (n / 256), hexC (n / 16 % 16), hexC (n % 16)] else [hexC (n / 4096), hexC (n / 256 % 16), hexC (n / 16 % 16), hexC (n % 16)] := by
  unfold digL
  by_cases h1 : n < 16
  · rw [digF_lt h1, if_pos h1]
  · rw [digF_ge h1, if_neg h1]
    by_cases h2 : n < 256
    · rw [digF_lt (by omega), if_pos h2]; rfl
    · rw [digF_ge (by omega), if_neg h2]
      by_cases h3 : n < 4096
      · rw [digF_lt (by omega), if_pos h3, Nat.div_div_eq_div_mul]; rfl
      · rw [digF_ge (by omega), digF_lt (by omega), if_neg h3]
        simp only [Nat.div_div_eq_div_mul]
        rfl
end Addr05
end Go.Proofs.YtcpokkkdmenmgaaDoor
/- law05: digits of a number. Conditions: base 10 or 16, a number of 64 bits. -/
namespace Go.Proofs.YtcpokkkdmenmgaaDoor
open Go.RowKit Go.ChangeShapes Go.WideShapes Go.ChangeAt Go.Deep
namespace Addr05
theorem hex_slice : ∀ (d : Nat), d < 16 → (ByteArray.mk #[48, 49, 50, 51, 52, 53, 54, 55, 56, 57, 97, 98, 99, 100, 101, 102]).extract d (d + 1) = str [hexC d] := by decide
theorem str_append (a b : List UInt8) : str a ++ str b = str (a ++ b) := by
  unfold str
  apply ByteArray.ext
  simp
end Addr05
end Go.Proofs.YtcpokkkdmenmgaaDoor
/- Contracts of strings, laid at this program off the shelf. Conditions: as each says. -/
namespace Go.Proofs.YtcpokkkdmenmgaaDoor
open Go.Shelf
def Tryd.lays156_ren : Go.Shelf.Ren := ⟨fun | 156 => 50 | 165 => 74 | 166 => 75 | 169 => 76 | 240 => 86 | 241 => 87 | 276 => 95 | 277 => 96 | n => n, fun | 31 => 83 | 9 => 9 | 3 => 3 | 4 => 4 | 0 => 0 | 20 => 20 | 72 => 139 | 76 => 143 | 70 => 137 | 37 => 116 | 75 => 142 | 127 => 154 | 164 => 160 | 5 => 5 | 80 => 145 | n => n, fun | n => n⟩
theorem Tryd.lays156 : Go.Proofs.Lays.n156 Tryd.prog Tryd.lays156_ren := {
  mixed := by kernel_rfl
  f156 := Tryd.func50.trans (congrArg some (by kernel_rfl))
  f165 := Tryd.func74.trans (congrArg some (by kernel_rfl))
  f166 := Tryd.func75.trans (congrArg some (by kernel_rfl))
  f169 := Tryd.func76.trans (congrArg some (by kernel_rfl))
  f240 := Tryd.func86.trans (congrArg some (by kernel_rfl))
  f241 := Tryd.func87.trans (congrArg some (by kernel_rfl))
  f276 := Tryd.func95.trans (congrArg some (by kernel_rfl))
  f277 := Tryd.func96.trans (congrArg some (by kernel_rfl))
  t0 := Tryd.underlying0
  a0 := Tryd.isAgg0
  z0 := Tryd.sizeOf0
  v0 := Tryd.zeroValue0
  t3 := Tryd.underlying3
  a3 := Tryd.isAgg3
  z3 := Tryd.sizeOf3
  v3 := Tryd.zeroValue3
  t4 := Tryd.underlying4
  a4 := Tryd.isAgg4
  z4 := Tryd.sizeOf4
  v4 := Tryd.zeroValue4
  t9 := Tryd.underlying9
  a9 := Tryd.isAgg9
  z9 := Tryd.sizeOf9
  v9 := Tryd.zeroValue9
  t20 := Tryd.underlying20
  a20 := Tryd.isAgg20
  z20 := Tryd.sizeOf20
  v20 := Tryd.zeroValue20
  t31 := Tryd.underlying83
  a31 := Tryd.isAgg83
  z31 := Tryd.sizeOf83
  v31 := Tryd.zeroValue83
  t37 := Tryd.underlying116
  a37 := Tryd.isAgg116
  z37 := Tryd.sizeOf116
  v37 := Tryd.zeroValue116
  t70 := Tryd.underlying137
  a70 := Tryd.isAgg137
  z70 := Tryd.sizeOf137
  v70 := Tryd.zeroValue137
  t72 := Tryd.underlying139
  a72 := Tryd.isAgg139
  z72 := Tryd.sizeOf139
  v72 := Tryd.zeroValue139
  t75 := Tryd.underlying142
  a75 := Tryd.isAgg142
  z75 := Tryd.sizeOf142
  v75 := Tryd.zeroValue142
  t76 := Tryd.underlying143
  a76 := Tryd.isAgg143
  z76 := Tryd.sizeOf143
  v76 := Tryd.zeroValue143
  t127 := Tryd.underlying154
  a127 := Tryd.isAgg154
  z127 := Tryd.sizeOf154
  v127 := Tryd.zeroValue154
  t164 := Tryd.underlying160
  a164 := Tryd.isAgg160
  z164 := Tryd.sizeOf160
  v164 := Tryd.zeroValue160 }
theorem Tryd.Builder_Extra_156 : Builder.Extra Tryd.prog Tryd.lays156_ren := {
  sizeBuilder := by kernel_rfl
  liesBuilder := by kernel_rfl
  t5 := Tryd.underlying5
  a5 := Tryd.isAgg5
  z5 := Tryd.sizeOf5
  v5 := Tryd.zeroValue5
  infoByte := by kernel_rfl
  cellsByte := by kernel_rfl
  sizeByte := by kernel_rfl
  neB5 := by decide }
open Go.RowKit in
theorem Tryd.strings_Join_none (a : Option Addr) (c : Nat) (sep : ByteArray) (w : World) :
    Calls Tryd.prog 50 #[.slice a 0 c, .string sep] w fun e w' => e = .returned (.string ⟨#[]⟩) ∧ w' = w := Any.strings_Join_none Tryd.lays156 Tryd.Builder_Extra_156 a c sep w
open Go.RowKit in
theorem Tryd.strings_Join (bk o c : Nat) (xs : List ByteArray) (sep : ByteArray) (w : World) (hcells : ∀ (j : Nat) x, xs[j]? = some x → w.cell? ⟨bk, o + j, none⟩ = some (.string x)) (hbk : bk < w.heap.size) (hN : xs.length ≤ 140737488355328) (hcap : xs.length ≤ c) (hlen : (Lib.join (xs.map (·.data.toList)) sep.data.toList).length ≤ 140737488355328) :
    Calls Tryd.prog 50 #[.slice (some ⟨bk, o, none⟩) xs.length c, .string sep] w fun e w' => e = .returned (.string ⟨(Lib.join (xs.map (·.data.toList)) sep.data.toList).toArray⟩) ∧ Below w.heap.size w w' := Any.strings_Join Tryd.lays156 Tryd.Builder_Extra_156 bk o c xs sep w hcells hbk hN hcap hlen
def Tryd.lays137_ren : Go.Shelf.Ren := ⟨fun | 137 => 109 | 217 => 100 | 266 => 107 | n => n, fun | 9 => 9 | 5 => 5 | 3 => 3 | n => n, fun | n => n⟩
theorem Tryd.lays137 : Go.Proofs.Lays.n137 Tryd.prog Tryd.lays137_ren := {
  mixed := by kernel_rfl
  f137 := Tryd.func109.trans (congrArg some (by kernel_rfl))
  f217 := Tryd.func100.trans (congrArg some (by kernel_rfl))
  f266 := Tryd.func107.trans (congrArg some (by kernel_rfl))
  t3 := Tryd.underlying3
  a3 := Tryd.isAgg3
  z3 := Tryd.sizeOf3
  v3 := Tryd.zeroValue3
  t5 := Tryd.underlying5
  a5 := Tryd.isAgg5
  z5 := Tryd.sizeOf5
  v5 := Tryd.zeroValue5
  t9 := Tryd.underlying9
  a9 := Tryd.isAgg9
  z9 := Tryd.sizeOf9
  v9 := Tryd.zeroValue9 }
open Go.RowKit in
theorem Tryd.strings_IndexByte (s : ByteArray) (c : Int) (w : World) :
    Calls Tryd.prog 109 #[.string s, .int .u8 c] w fun e w' => e = .returned (.int .i64 (Lib.indexByte s.data.toList c.toNat.toUInt8)) ∧ w' = w := Any.strings_IndexByte Tryd.lays137 s c w
def Tryd.lays144_ren : Go.Shelf.Ren := ⟨fun | 144 => 93 | 143 => 90 | 219 => 91 | 217 => 100 | 225 => 101 | 224 => 102 | 267 => 103 | 266 => 107 | 314 => 108 | n => n, fun | 9 => 9 | 4 => 4 | 3 => 3 | 5 => 5 | 46 => 167 | 146 => 174 | 51 => 173 | n => n, fun | 1 => 0 | n => n⟩
theorem Tryd.lays144 : Go.Proofs.Lays.n144 Tryd.prog Tryd.lays144_ren := {
  mixed := by kernel_rfl
  f143 := Tryd.func90.trans (congrArg some (by kernel_rfl))
  f144 := Tryd.func93.trans (congrArg some (by kernel_rfl))
  f217 := Tryd.func100.trans (congrArg some (by kernel_rfl))
  f219 := Tryd.func91.trans (congrArg some (by kernel_rfl))
  f224 := Tryd.func102.trans (congrArg some (by kernel_rfl))
  f225 := Tryd.func101.trans (congrArg some (by kernel_rfl))
  f266 := Tryd.func107.trans (congrArg some (by kernel_rfl))
  f267 := Tryd.func103.trans (congrArg some (by kernel_rfl))
  f314 := Tryd.func108.trans (congrArg some (by kernel_rfl))
  t3 := Tryd.underlying3
  a3 := Tryd.isAgg3
  z3 := Tryd.sizeOf3
  v3 := Tryd.zeroValue3
  t4 := Tryd.underlying4
  a4 := Tryd.isAgg4
  z4 := Tryd.sizeOf4
  v4 := Tryd.zeroValue4
  t5 := Tryd.underlying5
  a5 := Tryd.isAgg5
  z5 := Tryd.sizeOf5
  v5 := Tryd.zeroValue5
  t9 := Tryd.underlying9
  a9 := Tryd.isAgg9
  z9 := Tryd.sizeOf9
  v9 := Tryd.zeroValue9
  t46 := Tryd.underlying167
  a46 := Tryd.isAgg167
  z46 := Tryd.sizeOf167
  v46 := Tryd.zeroValue167
  t51 := Tryd.underlying173
  a51 := Tryd.isAgg173
  z51 := Tryd.sizeOf173
  v51 := Tryd.zeroValue173
  t146 := Tryd.underlying174
  a146 := Tryd.isAgg174
  z146 := Tryd.sizeOf174
  v146 := Tryd.zeroValue174
  g1 := by kernel_rfl }
open Go.RowKit Go.Lib in
theorem Tryd.strings_Contains_one (s : ByteArray) (c : UInt8) (w : World) :
    Calls Tryd.prog 93 #[.string s, .string ⟨#[c]⟩] w fun e w' => e = .returned (.bool (decide (0 ≤ Lib.indexByte s.data.toList c))) ∧ w' = w := Any.strings_Contains_one Tryd.lays144 s c w
def Tryd.lays145_ren : Go.Shelf.Ren := ⟨fun | 145 => 55 | 220 => 78 | 219 => 91 | 217 => 100 | 225 => 101 | 224 => 102 | 267 => 103 | 266 => 107 | 314 => 108 | n => n, fun | 9 => 9 | 4 => 4 | 59 => 124 | 3 => 3 | 5 => 5 | 46 => 167 | 146 => 174 | 51 => 173 | n => n, fun | 1 => 0 | n => n⟩
theorem Tryd.lays145 : Go.Proofs.Lays.n145 Tryd.prog Tryd.lays145_ren := {
  mixed := by kernel_rfl
  f145 := Tryd.func55.trans (congrArg some (by kernel_rfl))
  f217 := Tryd.func100.trans (congrArg some (by kernel_rfl))
  f219 := Tryd.func91.trans (congrArg some (by kernel_rfl))
  f220 := Tryd.func78.trans (congrArg some (by kernel_rfl))
  f224 := Tryd.func102.trans (congrArg some (by kernel_rfl))
  f225 := Tryd.func101.trans (congrArg some (by kernel_rfl))
  f266 := Tryd.func107.trans (congrArg some (by kernel_rfl))
  f267 := Tryd.func103.trans (congrArg some (by kernel_rfl))
  f314 := Tryd.func108.trans (congrArg some (by kernel_rfl))
  t3 := Tryd.underlying3
  a3 := Tryd.isAgg3
  z3 := Tryd.sizeOf3
  v3 := Tryd.zeroValue3
  t4 := Tryd.underlying4
  a4 := Tryd.isAgg4
  z4 := Tryd.sizeOf4
  v4 := Tryd.zeroValue4
  t5 := Tryd.underlying5
  a5 := Tryd.isAgg5
  z5 := Tryd.sizeOf5
  v5 := Tryd.zeroValue5
  t9 := Tryd.underlying9
  a9 := Tryd.isAgg9
  z9 := Tryd.sizeOf9
  v9 := Tryd.zeroValue9
  t46 := Tryd.underlying167
  a46 := Tryd.isAgg167
  z46 := Tryd.sizeOf167
  v46 := Tryd.zeroValue167
  t51 := Tryd.underlying173
  a51 := Tryd.isAgg173
  z51 := Tryd.sizeOf173
  v51 := Tryd.zeroValue173
  t59 := Tryd.underlying124
  a59 := Tryd.isAgg124
  z59 := Tryd.sizeOf124
  v59 := Tryd.zeroValue124
  t146 := Tryd.underlying174
  a146 := Tryd.isAgg174
  z146 := Tryd.sizeOf174
  v146 := Tryd.zeroValue174
  g1 := by kernel_rfl }
open Go.RowKit Go.Lib in
theorem Tryd.strings_Cut (s sep : ByteArray) (m : Int) (w : World) (hs : s.size < 4294967281) (hm : w.cell? ⟨0, 0, none⟩ = some (.int .i64 m)) :
    Calls Tryd.prog 55 #[.string s, .string sep] w fun e w' => e = .returned (.tuple #[.string ⟨(Lib.cut s.data.toList sep.data.toList).1.toArray⟩, .string ⟨(Lib.cut s.data.toList sep.data.toList).2.1.toArray⟩, .bool (Lib.cut s.data.toList sep.data.toList).2.2]) ∧ ∃ n, w' = w.drewN n := Any.strings_Cut Tryd.lays145 s sep m w hs hm
def Tryd.lays146_ren : Go.Shelf.Ren := ⟨fun | 146 => 54 | 221 => 77 | 268 => 88 | 138 => 89 | 143 => 90 | 195 => 97 | 197 => 98 | 218 => 99 | 219 => 91 | 260 => 106 | 217 => 100 | 225 => 101 | 224 => 102 | 267 => 103 | 266 => 107 | 314 => 108 | n => n, fun | 9 => 9 | 31 => 83 | 3 => 3 | 4 => 4 | 0 => 0 | 105 => 163 | 21 => 21 | 5 => 5 | 46 => 167 | 119 => 176 | 139 => 179 | 138 => 178 | 146 => 174 | 51 => 173 | n => n, fun | 1 => 0 | 3 => 1 | 4 => 2 | n => n⟩
theorem Tryd.lays146 : Go.Proofs.Lays.n146 Tryd.prog Tryd.lays146_ren := {
  mixed := by kernel_rfl
  f138 := Tryd.func89.trans (congrArg some (by kernel_rfl))
  f143 := Tryd.func90.trans (congrArg some (by kernel_rfl))
  f146 := Tryd.func54.trans (congrArg some (by kernel_rfl))
  f195 := Tryd.func97.trans (congrArg some (by kernel_rfl))
  f197 := Tryd.func98.trans (congrArg some (by kernel_rfl))
  f217 := Tryd.func100.trans (congrArg some (by kernel_rfl))
  f218 := Tryd.func99.trans (congrArg some (by kernel_rfl))
  f219 := Tryd.func91.trans (congrArg some (by kernel_rfl))
  f221 := Tryd.func77.trans (congrArg some (by kernel_rfl))
  f224 := Tryd.func102.trans (congrArg some (by kernel_rfl))
  f225 := Tryd.func101.trans (congrArg some (by kernel_rfl))
  f260 := Tryd.func106.trans (congrArg some (by kernel_rfl))
  f266 := Tryd.func107.trans (congrArg some (by kernel_rfl))
  f267 := Tryd.func103.trans (congrArg some (by kernel_rfl))
  f268 := Tryd.func88.trans (congrArg some (by kernel_rfl))
  f314 := Tryd.func108.trans (congrArg some (by kernel_rfl))
  t0 := Tryd.underlying0
  a0 := Tryd.isAgg0
  z0 := Tryd.sizeOf0
  v0 := Tryd.zeroValue0
  t3 := Tryd.underlying3
  a3 := Tryd.isAgg3
  z3 := Tryd.sizeOf3
  v3 := Tryd.zeroValue3
  t4 := Tryd.underlying4
  a4 := Tryd.isAgg4
  z4 := Tryd.sizeOf4
  v4 := Tryd.zeroValue4
  t5 := Tryd.underlying5
  a5 := Tryd.isAgg5
  z5 := Tryd.sizeOf5
  v5 := Tryd.zeroValue5
  t9 := Tryd.underlying9
  a9 := Tryd.isAgg9
  z9 := Tryd.sizeOf9
  v9 := Tryd.zeroValue9
  t21 := Tryd.underlying21
  a21 := Tryd.isAgg21
  z21 := Tryd.sizeOf21
  v21 := Tryd.zeroValue21
  t31 := Tryd.underlying83
  a31 := Tryd.isAgg83
  z31 := Tryd.sizeOf83
  v31 := Tryd.zeroValue83
  t46 := Tryd.underlying167
  a46 := Tryd.isAgg167
  z46 := Tryd.sizeOf167
  v46 := Tryd.zeroValue167
  t51 := Tryd.underlying173
  a51 := Tryd.isAgg173
  z51 := Tryd.sizeOf173
  v51 := Tryd.zeroValue173
  t105 := Tryd.underlying163
  a105 := Tryd.isAgg163
  z105 := Tryd.sizeOf163
  v105 := Tryd.zeroValue163
  t119 := Tryd.underlying176
  a119 := Tryd.isAgg176
  z119 := Tryd.sizeOf176
  t138 := Tryd.underlying178
  a138 := Tryd.isAgg178
  z138 := Tryd.sizeOf178
  v138 := Tryd.zeroValue178
  t139 := Tryd.underlying179
  a139 := Tryd.isAgg179
  z139 := Tryd.sizeOf179
  v139 := Tryd.zeroValue179
  t146 := Tryd.underlying174
  a146 := Tryd.isAgg174
  z146 := Tryd.sizeOf174
  v146 := Tryd.zeroValue174
  g1 := by kernel_rfl
  g3 := by kernel_rfl
  g4 := by kernel_rfl }
open Go.RowKit Go.Lib in
theorem Tryd.strings_Split (s sep : ByteArray) (m : Int) (w : World) (hs : s.size < 4294967281) (hm : w.cell? ⟨0, 0, none⟩ = some (.int .i64 m)) (h1 : 1 ≤ sep.size) :
    Calls Tryd.prog 54 #[.string s, .string sep] w fun e w' =>
      e = .returned (.slice (some ⟨w.heap.size, 0, none⟩) (Lib.countB s sep + 1) (Lib.countB s sep + 1)) ∧ w' = w.alloc (.cells ((Lib.splitB sep 0 (Lib.countB s sep) s).map Value.string).toArray 9) := Any.strings_Split Tryd.lays146 (by kernel_rfl) s sep m w hs hm h1
end Go.Proofs.YtcpokkkdmenmgaaDoor
/- tcp.Parse, by contract. Conditions: slices of bytes that read as lists, at most 2^40 bytes. -/
namespace Go.Proofs.YtcpokkkdmenmgaaDoor
open Go.RowKit Go.ChangeShapes Go.WideShapes Go.ChangeAt Go.Deep
theorem set8all {w : World} {g : Nat} {t : TypeId} {a0 a1 a2 a3 a4 a5 a6 a7 : Value} (h : w.heap[g]? = some (.cells #[a0, a1, a2, a3, a4, a5, a6, a7] t (0, 0))) (v0 v1 v2 v3 v4 v5 v6 v7 : Value) : ∃ w', ((((((((w.setCell ⟨g, 0, none⟩ v0).setCell ⟨g, 1, none⟩ v1).setCell ⟨g, 2, none⟩ v2).setCell ⟨g, 3, none⟩ v3).setCell ⟨g, 4, none⟩ v4).setCell ⟨g, 5, none⟩ v5).setCell ⟨g, 6, none⟩ v6).setCell ⟨g, 7, none⟩ v7) = w' ∧ w'.heap[g]? = some (.cells #[v0, v1, v2, v3, v4, v5, v6, v7] t (0, 0)) ∧ w.grownBy w' (some g) := by
  refine ⟨_, rfl, ?_, ?_⟩
  · simpa using (blk_set (blk_set (blk_set (blk_set (blk_set (blk_set (blk_set (blk_set h 0 v0) 1 v1) 2 v2) 3 v3) 4 v4) 5 v5) 6 v6) 7 v7)
  · iterate 8 refine grown_set ?_ rfl _
    exact grown_refl _ _
namespace Tcp
/-- Why bytes are no segment: 0 if they are one. -/
def parseK (ps xs : List UInt8) : Nat :=
  if xs.length < 20 then 2 else if (xs.getD 12 0).toNat / 16 * 4 < 20 ∨ xs.length < (xs.getD 12 0).toNat / 16 * 4 ∨ (xs.getD 12 0).toNat % 16 ≠ 0 then 11 else if Sum.ones (Sum.tot false (ps ++ xs)) = 65535 then 0 else 13
def parseS (K : Nat) (xs : List UInt8) (p : Nat) : Nat := if K = 0 then beN xs p 2 else 0
def parseF (K : Nat) (xs : List UInt8) : Nat := if K = 0 then (xs.getD 13 0).toNat else 0
abbrev hdV (sp dp seq ack fl wn ug : Int) (A : Option Addr) (n c : Nat) : Value := .agg #[.int .i64 sp, .int .i64 dp, .int .u32 seq, .int .u32 ack, .int .i64 fl, .int .i64 wn, .int .i64 ug, .slice A n c]
/-- How it ends. -/
def PEnd (K : Nat) (xs : List UInt8) (w w' : World) (e : Ending) : Prop :=
  ∃ seq ack wn ug A1 n1 c1 A2 n2 c2, e = .returned (.tuple #[hdV (parseS K xs 0 : Nat) (parseS K xs 2 : Nat) seq ack (parseF K xs : Nat) wn ug A1 n1 c1, .slice A2 n2 c2, .int .i64 (K : Int)]) ∧ Below w.heap.size w w'
theorem end_no {K : Nat} {xs : List UInt8} {w w' : World} (h : K ≠ 0) (hb : Below w.heap.size w w') : PEnd K xs w w' (.returned (.tuple #[hdV 0 0 0 0 0 0 0 none 0 0, .slice none 0 0, .int .i64 (K : Int)])) := by
  refine ⟨0, 0, 0, 0, none, 0, 0, none, 0, 0, ?_, hb⟩
  unfold parseS parseF
  rw [if_neg h, if_neg h, if_neg h]
  rfl
end Tcp
end Go.Proofs.YtcpokkkdmenmgaaDoor
/- lex: Digits. Condition: numbers from 0 on, below 2^60. -/
namespace Go.Proofs.YtcpokkkdmenmgaaDoor
open Go.RowKit Go.ChangeShapes Go.WideShapes Go.ChangeAt Go.Deep
namespace Conf18
open Addr05
theorem dec_u8 : ∀ d : Nat, d < 10 → (hexC d).toNat = 48 + d := by decide
set_option maxRecDepth 20000 in
set_option maxHeartbeats 4000000 in
theorem ldig_any (n : Nat) (hn : n < 1152921504606846976) (w : World) :
    Calls Tryd.prog 30 #[.int .i64 (n : Int)] w fun e w' => e = .returned (.string (str (digL 10 n))) ∧ Below w.heap.size w w' := by
  have hmx : max (n : Int) 0 = (n : Int) := by omega
  go_enter Tryd.func30, Tryd.ntmps30
  go_wp2_with fail
  go_loopw [0, 3] (fun nv bv wr => ∃ (j m : Nat) (acc : List UInt8), j < 20 ∧ nv = .int .i64 (m : Int) ∧ m ≤ n ∧ m < 10 ^ (20 - j) ∧ digF 10 (20 - j) m ++ acc = digL 10 n ∧ acc.length = j ∧ OwnB wr w.heap.size bv acc ∧ Below w.heap.size w wr) (fun nv _ _ => (intOf nv).toNat)
  case atStart => exact ⟨0, n, [], by omega, rfl, Nat.le_refl _, by omega, by simp [digL], rfl, OwnB.nil _ _, Below.refl _ _⟩
  case round =>
    obtain ⟨j, m, acc, hj, rfl, hmn, hm, hd, hl, ho, hB⟩ := hrel
    obtain ⟨d, hdd⟩ : ∃ d, m % 10 = d := ⟨_, rfl⟩
    have hd10 : d < 10 := by omega
    have d1 : (m : Int) % 10 = (d : Int) := by omega
    have d2 : Int.tmod (m : Int) 10 = (d : Int) := by rw [Int.tmod_eq_emod_of_nonneg (by omega)]; omega
    obtain ⟨q, hq⟩ : ∃ q, m / 10 = q := ⟨_, rfl⟩
    have q1 : (m : Int) / 10 = (q : Int) := by omega
    have q2 : Int.tdiv (m : Int) 10 = (q : Int) := by rw [Int.tdiv_eq_ediv_of_nonneg (by omega)]; omega
    have wq : IntKind.i64.wrap (q : Int) = (q : Int) := wraps62 _ (by omega) (by omega)
    obtain ⟨y, hy⟩ : ∃ y, 48 + d = y := ⟨_, rfl⟩
    have w1 : IntKind.i64.wrap (48 + (d : Int)) = (y : Int) := by rw [wraps62 _ (by omega) (by omega)]; omega
    have w2 : IntKind.u8.wrap (y : Int) = (y : Int) := by rw [IntKind.wrap_u8]; omega
    have hcell : [Value.int .u8 (y : Int)] = [hexC d].map u8v := by
      have := dec_u8 d hd10
      simp only [List.map_cons, List.map_nil, u8v, this, ← hy]
    have hqm : q ≤ m := by omega
    have hmb1 : m < 10 ↔ q = 0 := by omega
    have hlt2 : m < 10 ∨ q < m := by omega
    replace hd := hide hd
    replace ho := hide ho
    replace hB := hide hB
    replace hdd := hide hdd
    replace hq := hide hq
    replace hy := hide hy
    obtain ⟨Ab, cb, rfl, hcb, hmb, hib⟩ := ho.out.form
    have hal := hl
    replace hib := hide hib
    replace hl := hide hl
    replace hmb1 := hide hmb1
    replace hlt2 := hide hlt2
    go_wp2_with (at_builtin; refine wpl_src_bv rfl (.tmp 12) (.tmp 13) rfl wr.heap.size (.slice (some ⟨wr.heap.size, 0, none⟩) 1 1) [hexC d] acc Ab acc.length cb wr.heap.size rfl rfl ?_ ?_ ?_ ?_ ?_)
    · exact OwnB.litv wr wr.heap.size _ [hexC d] 1 rfl rfl (Nat.le_refl _) (by omega)
    · exact hib.out.below ((Below.refl _ _).alloc (Nat.le_refl _) _)
    · first | omega | simp
    · rw [List.length_singleton]; omega
    intro v2 w2 hown2 hg2
    have hb2 : Below wr.heap.size wr w2 := ((Below.refl _ _).alloc (Nat.le_refl _) _).trans (hg2.below (OwnB.litv wr wr.heap.size _ [hexC d] 1 rfl rfl (Nat.le_refl _) (by omega)) (by simp))
    have hsz := hB.out.size
    have hB2 := hB.out.trans (hb2.mono hsz)
    obtain ⟨t, ht⟩ : ∃ t, hexC d :: acc = t := ⟨_, rfl⟩
    have htl : t.length = j + 1 := by rw [← ht, List.length_cons, hl.out]
    rw [ht] at hown2
    obtain ⟨A2, c2, hv2, hc2, hm2, hi2⟩ := hown2.form
    rw [htl] at hv2 hc2 hi2
    subst hv2
    have hst := hi2.str c2
    have ho2 := hown2.weaken hsz
    clear hown2 hg2 hib ho hcell
    replace hi2 := hide hi2
    replace hb2 := hide hb2
    replace hB2 := hide hB2
    replace ho2 := hide ho2
    replace hd := hide hd
    replace ht := hide ht
    by_cases hz : m < 10
    · have t0 : decide ((m : Int) < 10) = true := by simp; omega
      go_wp2_with fail
      go_ret
      refine ⟨?_, hB2.out⟩
      obtain ⟨i, hi⟩ : ∃ i, 20 - j = i + 1 := ⟨19 - j, by omega⟩
      have h1 := hd.out.out
      rw [hi, digF_lt hz] at h1
      have hdm : m = d := by have := hdd.out; omega
      rw [hdm] at h1
      have h3 : t = digL 10 n := by rw [← h1, ← ht.out]; rfl
      rw [← h3]
      rfl
    · have t0 : decide ((m : Int) < 10) = false := by simp; omega
      go_wp2_with fail
      have hj19 : j < 19 := by
        rcases Nat.lt_or_ge j 19 with h | h
        · exact h
        · have e : j = 19 := by omega
          rw [e] at hm
          exact absurd (by simpa using hm) hz
      have e2 : 20 - j = (19 - j) + 1 := by omega
      have e3 : 20 - (j + 1) = 19 - j := by omega
      have h1 := hd.out.out
      rw [e2, digF_ge hz, hq.out, hdd.out, List.append_assoc] at h1
      rw [e2, Nat.pow_succ] at hm
      have hqq := hq.out
      refine ⟨⟨j + 1, q, t, by omega, rfl, Nat.le_trans hqm hmn, ?_, ?_, htl, ho2.out, hB2.out⟩, ?_⟩
      · rw [e3, ← hqq]
        exact Nat.div_lt_of_lt_mul (by rw [Nat.mul_comm]; exact hm)
      · rw [e3, ← h1, ← ht.out]; rfl
      · have hlt : q < m := by omega
        simpa [intOf] using hlt
end Conf18
end Go.Proofs.YtcpokkkdmenmgaaDoor
/- six.chain by contract: a header and those that extend it. Conditions: slices of bytes that read as lists. -/
namespace Go.Proofs.YtcpokkkdmenmgaaDoor
open Go.RowKit Go.ChangeShapes Go.WideShapes Go.ChangeAt Go.Deep
theorem u64_wrap63 (n : Int) (h0 : 0 ≤ n) (h1 : n < 2 ^ 63) : IntKind.u64.wrap n = n := wrapsu64 n h0 (by omega)
theorem u64_and255 (x : Int) (h0 : 0 ≤ x) (h1 : x < 4294967296) : bits .and .u64 x 255 = x % 256 := bits_mask .u64 63 (by decide) u64_wrap63 8 (by decide) x h0 (by omega)
theorem u64_and20 (x : Int) (h0 : 0 ≤ x) (h1 : x < 4294967296) : bits .and .u64 x 1048575 = x % 1048576 := bits_mask .u64 63 (by decide) u64_wrap63 20 (by decide) x h0 (by omega)
theorem set11 {w : World} {g : Nat} {t : TypeId} {a0 a1 a2 a3 a4 a5 a6 a7 a8 a9 a10 : Value} (h : w.heap[g]? = some (.cells #[a0, a1, a2, a3, a4, a5, a6, a7, a8, a9, a10] t (0, 0))) (v0 v1 v2 v3 v4 v5 v6 v7 v8 v9 v10 : Value) :
    ∃ w', (((((((((((w.setCell ⟨g, 0, none⟩ v0).setCell ⟨g, 1, none⟩ v1).setCell ⟨g, 2, none⟩ v2).setCell ⟨g, 3, none⟩ v3).setCell ⟨g, 4, none⟩ v4).setCell ⟨g, 5, none⟩ v5).setCell ⟨g, 6, none⟩ v6).setCell ⟨g, 7, none⟩ v7).setCell ⟨g, 8, none⟩ v8).setCell ⟨g, 9, none⟩ v9).setCell ⟨g, 10, none⟩ v10) = w' ∧ w'.heap[g]? = some (.cells #[v0, v1, v2, v3, v4, v5, v6, v7, v8, v9, v10] t (0, 0)) ∧ w.grownBy w' (some g) := by
  refine ⟨_, rfl, ?_, ?_⟩
  · simpa using (blk_set (blk_set (blk_set (blk_set (blk_set (blk_set (blk_set (blk_set (blk_set (blk_set (blk_set h 0 v0) 1 v1) 2 v2) 3 v3) 4 v4) 5 v5) 6 v6) 7 v7) 8 v8) 9 v9) 10 v10)
  · iterate 11 refine grown_set ?_ rfl _
    exact grown_refl _ _
theorem own_kept {w w' : World} {base : Nat} {v : Value} {e : TypeId} {size n : Nat} {xs : List Value} {row : Option Nat} (h : w.ownsRow base e size v n xs) (hg : w.grownBy w' row) (hne : v.ownBlock = none ∨ v.ownBlock ≠ row) : w'.ownsRow base e size v n xs := World.ownsRow.kept h hg hne
theorem grown_none {w w' : World} (hb : Below w.heap.size w w') : w.grownBy w' none := ⟨hb.os, hb.tape, hb.output, hb.size, fun k hk _ => hb.block k hk⟩
theorem own_below {w w' : World} {base : Nat} {v : Value} {e : TypeId} {size n : Nat} {xs : List Value} (h : w.ownsRow base e size v n xs) (hb : Below w.heap.size w w') : w'.ownsRow base e size v n xs :=
  own_kept h (grown_none hb) (by cases v.ownBlock <;> simp)
/-- Rows of different types lie in different blocks. -/
theorem own_apart {w : World} {base base' : Nat} {v u : Value} {e e' : TypeId} {size n size' n' : Nat} {xs xs' : List Value} (h : w.ownsRow base e size v n xs) (h' : w.ownsRow base' e' size' u n' xs') (hne : e ≠ e') : v.ownBlock = none ∨ v.ownBlock ≠ u.ownBlock := by
  rcases h.2 with ⟨rfl, _⟩ | ⟨g, cap, cur, rfl, hg, hh, _⟩
  · exact .inl rfl
  · rcases h'.2 with ⟨rfl, _⟩ | ⟨g', cap', cur', rfl, hg', hh', _⟩
    · exact .inr (by intro e; cases e)
    · right
      intro e
      have : g = g' := by simpa [Value.ownBlock] using e
      subst this
      rw [hh] at hh'
      simp at hh'
      exact hne hh'.2
theorem own_not {w : World} {base : Nat} {v : Value} {e : TypeId} {size n : Nat} {xs : List Value} (h : w.ownsRow base e size v n xs) {g : Nat} (hg : g < base) : v.ownBlock = none ∨ v.ownBlock ≠ some g := by
  rcases hob : v.ownBlock with _ | k
  · exact .inl rfl
  · right
    intro e
    have h1 := (World.ownsRow.lt h k hob).1
    cases e
    omega
namespace Six
/-! ### Plain -/
def Ext.pe (e : Ext) : Int × List UInt8 := (e.k, e.xs)
def partP (acc : List (Int × List UInt8)) : List UInt8 := match acc.find? fun p => decide (p.1 = 44 ∧ p.2.length = 7) with | some p => p.2 | none => []
theorem partB_eq (es : List Ext) : partB es = partP (es.map Ext.pe) := by
  unfold partB partP
  rw [List.find?_map]
  have e : ((fun p : Int × List UInt8 => decide (p.1 = 44 ∧ p.2.length = 7)) ∘ Ext.pe) = Ext.isPart := by
    funext e
    exact decide_eq_decide.mpr Iff.rfl
  rw [e]
  rcases es.find? Ext.isPart with _ | e <;> rfl
def fragP (acc : List (Int × List UInt8)) : Nat := beN (partP acc) 1 2 / 8
/-- How long the next one is. -/
def sizeP (next : Nat) (rs : List UInt8) : Nat := if next = 44 then 8 else 8 + 8 * (rs.getD 1 0).toNat
/-- The headers that extend one. -/
def chainF : Nat → Nat → List UInt8 → List (Int × List UInt8) → Option (List (Int × List UInt8) × Nat × List UInt8)
  | 0, _, _, _ => none
  | f + 1, next, rs, acc =>
    if isB (next : Int) = false then some (acc, next, rs)
    else if acc.length = 8 ∨ rs.length < 8 then none
    else if rs.length < sizeP next rs ∨ (next = 0 ∧ 0 < acc.length) then none
    else if 0 < fragP (acc ++ [((next : Int), (rs.take (sizeP next rs)).drop 1)]) then
      (if isB ((rs.getD 0 0).toNat : Int) = true then none else some (acc ++ [((next : Int), (rs.take (sizeP next rs)).drop 1)], (rs.getD 0 0).toNat, rs.drop (sizeP next rs)))
    else chainF f (rs.getD 0 0).toNat (rs.drop (sizeP next rs)) (acc ++ [((next : Int), (rs.take (sizeP next rs)).drop 1)])
/-! ### The walk -/
/-- No header. -/
abbrev hd0 : Value := hdV 0 0 0 false 0 0 false 0 0 none 0 0 0
theorem own_weaken {w : World} {base base' : Nat} {v : Value} {e : TypeId} {size n : Nat} {xs : List Value} (h : w.ownsRow base e size v n xs) (hb : base' ≤ base) : w.ownsRow base' e size v n xs :=
  ⟨h.1, h.2.imp id fun ⟨g, cap, cur, h1, h2, h3⟩ => ⟨g, cap, cur, h1, Nat.le_trans hb h2, h3⟩⟩
section
variable {w w' : World} {base : Nat} {X : Option Addr} {xc : Nat} {es : List Ext}
end
/-- A slice's length. -/
def sliceLen : Value → Nat
  | .slice _ n _ => n
  | _ => 0
end Six
end Go.Proofs.YtcpokkkdmenmgaaDoor
/- six.Quote and six.Parse by contract. Conditions: slices of bytes that read as lists. -/
namespace Go.Proofs.YtcpokkkdmenmgaaDoor
open Go.RowKit Go.ChangeShapes Go.WideShapes Go.ChangeAt Go.Deep
namespace Six
/-- Why bytes quote nothing; 0: they do. -/
def quoteK (n : Nat) (xs : List UInt8) : Nat := if n < 40 then 2 else if (xs.getD 0 0).toNat / 16 ≠ 6 then 10 else if (chainF 9 (xs.getD 6 0).toNat (xs.drop 40) []).isNone then 11 else 0
def quoteR (xs : List UInt8) : Option (List (Int × List UInt8) × Nat × List UInt8) := chainF 9 (xs.getD 6 0).toNat (xs.drop 40) []
/-- Why bytes are no packet; 0: they are. -/
def parseK (n : Nat) (xs : List UInt8) : Nat := if n < 40 then 2 else if (xs.getD 0 0).toNat / 16 ≠ 6 then 10 else if n - 40 < beN xs 4 2 then 12 else if (chainF 9 (xs.getD 6 0).toNat ((xs.take (40 + beN xs 4 2)).drop 40) []).isNone then 11 else 0
def parseR (xs : List UInt8) : Option (List (Int × List UInt8) × Nat × List UInt8) := chainF 9 (xs.getD 6 0).toNat ((xs.take (40 + beN xs 4 2)).drop 40) []
theorem getD_take (xs : List UInt8) (m i : Nat) (h : i < m) : (xs.take m).getD i 0 = xs.getD i 0 := by
  simp only [List.getD, List.getElem?_take_of_lt h]
theorem beN_take (xs : List UInt8) (m p : Nat) : ∀ k, p + k ≤ m → beN (xs.take m) p k = beN xs p k
  | 0, _ => rfl
  | k + 1, h => by rw [beN, beN, beN_take xs m p k (by omega), getD_take xs m _ (by omega)]
end Six
end Go.Proofs.YtcpokkkdmenmgaaDoor
/- icmp.Error and icmp.Quoted by contract. Conditions: slices of bytes that read as lists. -/
namespace Go.Proofs.YtcpokkkdmenmgaaDoor
open Go.RowKit Go.ChangeShapes Go.WideShapes Go.ChangeAt Go.Deep
namespace Icmp
/-- Does a type tell of an error? -/
def errB (v6 : Bool) (k : Int) : Bool := if v6 then decide (1 ≤ k ∧ k ≤ 4) else decide (k = 3 ∨ k = 4 ∨ k = 5 ∨ k = 11 ∨ k = 12)
theorem set9 {w : World} {g : Nat} {t : TypeId} {a0 a1 a2 a3 a4 a5 a6 a7 a8 : Value} (h : w.heap[g]? = some (.cells #[a0, a1, a2, a3, a4, a5, a6, a7, a8] t (0, 0))) (v0 v1 v2 v3 v4 v5 v6 v7 v8 : Value) :
    ∃ w', (((((((((w.setCell ⟨g, 0, none⟩ v0).setCell ⟨g, 1, none⟩ v1).setCell ⟨g, 2, none⟩ v2).setCell ⟨g, 3, none⟩ v3).setCell ⟨g, 4, none⟩ v4).setCell ⟨g, 5, none⟩ v5).setCell ⟨g, 6, none⟩ v6).setCell ⟨g, 7, none⟩ v7).setCell ⟨g, 8, none⟩ v8) = w' ∧ w'.heap[g]? = some (.cells #[v0, v1, v2, v3, v4, v5, v6, v7, v8] t (0, 0)) ∧ w.grownBy w' (some g) := by
  refine ⟨_, rfl, ?_, ?_⟩
  · simpa using (blk_set (blk_set (blk_set (blk_set (blk_set (blk_set (blk_set (blk_set (blk_set h 0 v0) 1 v1) 2 v2) 3 v3) 4 v4) 5 v5) 6 v6) 7 v7) 8 v8)
  · iterate 9 refine grown_set ?_ rfl _
    exact grown_refl _ _
theorem grown_below {w w' : World} {g B : Nat} (h : w.grownBy w' (some g)) (hB : B ≤ w.heap.size) (hg : B ≤ g) : Below B w w' := below_of_grown h hB (by intro k hk; cases hk; exact hg)
theorem grown_blk {w w' : World} {g k : Nat} {x : Option Obj} (h : w.grownBy w' (some g)) (hk : k < w.heap.size) (hne : k ≠ g) (hx : w.heap[k]? = x) : w'.heap[k]? = x := (h.block k hk (by simpa using hne)).trans hx
/-- Bytes stay when a block is written whose cells they are not. -/
theorem isB_grown {w w' : World} {g B n : Nat} {A : Option Addr} {xs : List UInt8} (h : IsB w B A n xs) (hg : w.grownBy w' (some g)) (hB : B ≤ w.heap.size) {v0 : Value} (h0 : ∀ i, w.cell? ⟨g, i, none⟩ = none ∨ ∃ v, w.cell? ⟨g, i, none⟩ = some v ∧ ∀ z, v ≠ .int .u8 z) (_ : v0 = v0) : IsB w' B A n xs := by
  refine ⟨h.1, fun hn => ?_⟩
  obtain ⟨b, off, e, hb, hc⟩ := h.2 hn
  refine ⟨b, off, e, hb, fun i hi => ?_⟩
  have hne : b ≠ g := by
    rintro rfl
    have h1 := hc i hi
    rcases h0 (off + i) with h2 | ⟨v, h2, h3⟩
    · rw [h2] at h1; cases h1
    · rw [h2] at h1
      cases h1
      exact h3 _ rfl
  rw [← hc i hi]
  exact World.cell?_of_block (hg.block b (Nat.lt_of_lt_of_le hb hB) (by simpa using hne))
/-! ### What is quoted -/
/-- A flow, as a value. -/
abbrev tuV (proto : Int) (sv : Bool) (shi slo : Int) (dv : Bool) (dhi dlo sp dp : Int) : Value := .agg #[.int .i64 proto, .bool sv, .int .u64 shi, .int .u64 slo, .bool dv, .int .u64 dhi, .int .u64 dlo, .int .i64 sp, .int .i64 dp]
abbrev tu0 : Value := tuV 0 false 0 0 false 0 0 0 0
/-- What bytes quote, in version 6 or 4: why nothing (K), or what. -/
def QIs (v6 : Bool) (n : Nat) (xs : List UInt8) (K proto shi slo dhi dlo frag : Nat) (rest : List UInt8) : Prop :=
  if v6 = true then K = Six.quoteK n xs ∧ (K = 0 → ∃ acc, Six.quoteR xs = some (acc, proto, rest) ∧ frag = Six.fragP acc ∧ shi = beN xs 8 8 ∧ slo = beN xs 16 8 ∧ dhi = beN xs 24 8 ∧ dlo = beN xs 32 8)
  else K = Four.quoteK n xs ∧ (K = 0 → proto = (xs.getD 9 0).toNat ∧ shi = 0 ∧ slo = beN xs 12 4 ∧ dhi = 0 ∧ dlo = beN xs 16 4 ∧ frag = beN xs 6 2 % 8192 ∧ rest = xs.drop ((xs.getD 0 0).toNat % 16 * 4))
theorem qIs_some (v6 : Bool) (n : Nat) (xs : List UInt8) : ∃ K proto shi slo dhi dlo frag rest, QIs v6 n xs K proto shi slo dhi dlo frag rest := by
  rcases v6 with _ | _
  · exact ⟨_, _, _, _, _, _, _, _, by unfold QIs; rw [if_neg (by simp)]; exact ⟨rfl, fun _ => ⟨rfl, rfl, rfl, rfl, rfl, rfl, rfl⟩⟩⟩
  · rcases hR : Six.quoteR xs with _ | ⟨acc, next, rest⟩
    · refine ⟨Six.quoteK n xs, 0, 0, 0, 0, 0, 0, [], ?_⟩
      unfold QIs
      rw [if_pos rfl]
      refine ⟨rfl, fun h => ?_⟩
      unfold Six.quoteR at hR
      unfold Six.quoteK at h
      rw [hR] at h
      split at h
      · cases h
      · split at h <;> simp at h
    · exact ⟨_, next, _, _, _, _, _, rest, by unfold QIs; rw [if_pos rfl, hR]; exact ⟨rfl, fun _ => ⟨acc, rfl, rfl, rfl, rfl, rfl, rfl⟩⟩⟩
/-- How it ends: why there is no flow, or the flow. -/
def FlowEnd (F : Nat) (v6 : Bool) (proto shi slo dhi dlo : Nat) (rest : List UInt8) (w w' : World) (e : Ending) : Prop :=
  (F ≠ 0 → e = .returned (.tuple #[tu0, .int .i64 (F : Int)])) ∧ (F = 0 → e = .returned (.tuple #[tuV proto v6 shi slo v6 dhi dlo (beN rest 0 2 : Nat) (beN rest 2 2 : Nat), .int .i64 0])) ∧ Below w.heap.size w w'
/-- Why what is quoted is no flow; 0: it is one. -/
def flowK (frag proto len : Nat) : Nat := if 0 < frag then 21 else if proto ≠ 6 ∧ proto ≠ 17 then 14 else if len < 4 then 2 else 0
end Icmp
end Go.Proofs.YtcpokkkdmenmgaaDoor
/- What icmp.Parse and icmp.Quoted make of bytes, wherever they lie: the same; icmp.Back by contract. Conditions: slices of bytes that read as lists, sizes below 2^40. -/
namespace Go.Proofs.YtcpokkkdmenmgaaDoor
open Go.RowKit Go.ChangeShapes Go.WideShapes Go.ChangeAt Go.Deep
namespace Icmp
theorem chain_len : ∀ (f next : Nat) (rs : List UInt8) (acc : List (Int × List UInt8)) (r : List (Int × List UInt8) × Nat × List UInt8), Six.chainF f next rs acc = some r → r.2.2.length ≤ rs.length
  | 0, _, _, _, _, h => by simp [Six.chainF] at h
  | f + 1, next, rs, acc, r, h => by
    unfold Six.chainF at h
    split at h
    · cases h; exact Nat.le_refl _
    · split at h
      · cases h
      · split at h
        · cases h
        · split at h
          · split at h
            · cases h
            · cases h
              simp
          · have := chain_len f _ _ _ _ h
            rw [List.length_drop] at this
            omega
end Icmp
end Go.Proofs.YtcpokkkdmenmgaaDoor
