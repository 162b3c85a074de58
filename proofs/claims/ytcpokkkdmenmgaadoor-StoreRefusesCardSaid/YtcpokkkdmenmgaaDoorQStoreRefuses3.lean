/- store, the law: the calls of both stores, in a scene; and what each makes of what both have. Conditions: texts of at most 65536 bytes, fewer than 2^39 changes. -/
import Derived.Test.YtcpokkkdmenmgaaDoorQStoreRefuses2
import Derived.Test.YtcpokkkdmenmgaaDoorQStoreNobody3
namespace Go.Proofs.YtcpokkkdmenmgaaDoor
open Go.RowKit Go.ChangeShapes Go.WideShapes Go.ChangeAt Go.Deep
namespace Store20
open Conf18 (Nd Vp Vw Cfg zA MapI lt_of_blk confF)
open Addr05 (Adr MaxAt)
open Val19
theorem Scene.more {w : World} {Z : Nat → Prop} {B s p m m' mp lo hi n : Nat} {tv nv a1 a2 a3 sv wv : Value} {S : St} {P : Pl} {TO : Option Tx} (h : Scene w Z B s p m tv S P TO mp lo hi n nv a1 a2 a3 sv wv) (hm : m ≤ m') : Scene w Z B s p m' tv S P TO mp lo hi n nv a1 a2 a3 sv wv := ⟨h.st, h.pl, h.tx, h.bs, Nat.le_trans h.n hm, h.ap, h.aw, h.max, h.mb, h.fz⟩
theorem ScE.more {w : World} {Z : Nat → Prop} {B s p m m' : Nat} {tv : Value} {S : St} {P : Pl} {TO : Option Tx} (h : ScE w Z B s p m tv S P TO) (hm : m ≤ m') : ScE w Z B s p m' tv S P TO := by
  obtain ⟨mp, lo, hi, n, nv, a1, a2, a3, sv, wv, h⟩ := h
  exact ⟨mp, lo, hi, n, nv, a1, a2, a3, sv, wv, h.more hm⟩
theorem ScE.below {w w' : World} {Z : Nat → Prop} {B s p m : Nat} {tv : Value} {S : St} {P : Pl} {TO : Option Tx} (h : ScE w Z B s p m tv S P TO) (hb : Below w.heap.size w w') : ScE w' Z B s p m tv S P TO := by
  obtain ⟨mp, lo, hi, n, nv, a1, a2, a3, sv, wv, h⟩ := h
  exact ⟨mp, lo, hi, n, nv, a1, a2, a3, sv, wv, h.below hb⟩
theorem ScE.size {w : World} {Z : Nat → Prop} {B s p m : Nat} {tv : Value} {S : St} {P : Pl} {TO : Option Tx} (h : ScE w Z B s p m tv S P TO) : B ≤ w.heap.size := by
  obtain ⟨mp, lo, hi, n, nv, a1, a2, a3, sv, wv, h⟩ := h
  have := h.pl.hb
  have := h.pl.lt
  omega
theorem ScE.less {w : World} {Z Z' : Nat → Prop} {B s p m : Nat} {tv : Value} {S : St} {P : Pl} {TO : Option Tx} (h : ScE w Z B s p m tv S P TO) (hZ : ∀ k, Z' k → Z k) : ScE w Z' B s p m tv S P TO := by
  obtain ⟨mp, lo, hi, n, nv, a1, a2, a3, sv, wv, h⟩ := h
  refine ⟨mp, lo, hi, n, nv, a1, a2, a3, sv, wv, h.st, h.pl, ?_, h.bs, h.n, h.ap, h.aw, h.max, h.mb, fun k hk => h.fz k (hZ k hk)⟩
  rcases TO with _ | T
  · exact h.tx
  · obtain ⟨t, lv, h1, h2, h3, h4, h5⟩ := h.tx
    exact ⟨t, lv, h1, h2, h3, h4, fun k hk => h5 k (hZ k hk)⟩
/-- A new block stays, too. -/
theorem ScE.fresh {w w' : World} {Z : Nat → Prop} {B s p m z : Nat} {tv : Value} {S : St} {P : Pl} {TO : Option Tx} (h : ScE w Z B s p m tv S P TO) (hb : Below w.heap.size w w') (hz : w.heap.size ≤ z ∧ z < w'.heap.size) : ScE w' (fun k => Z k ∨ k = z) B s p m tv S P TO := by
  obtain ⟨mp, lo, hi, n, nv, a1, a2, a3, sv, wv, h⟩ := h
  have h' := h.below hb
  have hl := h.st.lt
  have hp := h.pl.lt
  refine ⟨mp, lo, hi, n, nv, a1, a2, a3, sv, wv, h'.st, h'.pl, ?_, h'.bs, h'.n, h'.ap, h'.aw, h'.max, h'.mb, fun k hk => ?_⟩
  · rcases TO with _ | T
    · exact h'.tx
    · obtain ⟨t, lv, h1, h2, h3, h4, h5⟩ := h.tx
      refine ⟨t, lv, h1, h2.below hb, h3, h4, fun k hk => ?_⟩
      rcases hk with hk | rfl
      · exact h5 k hk
      · refine ⟨by have := h2.lt; omega, fun e => ?_⟩
        have := (World.ownsRow.lt h2.row _ e).2
        omega
  · rcases hk with hk | rfl
    · have := h'.fz k hk
      exact this
    · refine ⟨hz.2, by omega, by omega, by omega, fun e => ?_⟩
      have := (World.ownsRow.lt h.pl.rows.wait _ e).2
      omega
def addO (TO : Option Tx) (c : Ch) : Option Tx × Nat := match TO with
  | none => (none, 9)
  | some T => (some (addT T c).1, (addT T c).2)
def dropO (TO : Option Tx) : Option Tx := TO.map fun T => { T with over := true }
def comO (S : St) (TO : Option Tx) : St × Int := match TO with
  | none => (S, 9)
  | some T => commitS S T
section
variable {w : World} {Z : Nat → Prop} {B s p m : Nat} {tv : Value} {S : St} {P : Pl} {TO : Option Tx}
theorem sc_load (t : List UInt8) (ht : t.length ≤ 65536) (h : ScE w Z B s p m tv S P TO) (hg : S.gen < big) :
    Calls Tryd.prog 13 #[.pointer (some ⟨s, 0, none⟩), .string (str t)] w fun e w' => e = .returned (.tuple #[.int .i64 (loadS S t).2.1, .int .i64 (loadS S t).2.2]) ∧ ScE w' Z B s p (m + 1) tv (loadS S t).1 P TO ∧ Below B w w' ∧ ∀ k, Z k → w'.heap[k]? = w.heap[k]? := by
  have hz := h.size
  obtain ⟨mp, lo, hi, n, nv, a1, a2, a3, sv, wv, h⟩ := h
  refine (load_any S t ht w h.st hg h.max).mono ?_
  rintro e w' ⟨rfl, hto⟩
  obtain ⟨lo', hi', n', nv', h1, h2⟩ := h.store hto
  have := h.bs
  exact ⟨rfl, ⟨_, _, _, _, _, _, _, _, _, _, h1⟩, below_step (Below.refl B w) h2 hz (fun i hi e => by omega), fun k hk => h2.block k (h.fz k hk).1 (fun e => by have := h.fz k hk; omega)⟩
theorem sc_weight (y : List UInt8) (hy : y.length ≤ maxLen) (x : Int) (h : ScE w Z B s p m tv S P TO) (hg : S.gen < big) (hm : m < big) :
    Calls Tryd.prog 16 #[.pointer (some ⟨s, 0, none⟩), .string (str y), .int .i64 x] w fun e w' => e = .returned (.int .i64 ((weightS S y x).2 : Int)) ∧ ScE w' Z B s p (m + 1) tv (weightS S y x).1 P TO ∧ Below B w w' ∧ ∀ k, Z k → w'.heap[k]? = w.heap[k]? := by
  have hz := h.size
  obtain ⟨mp, lo, hi, n, nv, a1, a2, a3, sv, wv, h⟩ := h
  refine (weight_any S y hy x w h.st hg (Nat.lt_of_le_of_lt h.n hm)).mono ?_
  rintro e w' ⟨rfl, hto⟩
  obtain ⟨lo', hi', n', nv', h1, h2⟩ := h.store hto
  have := h.bs
  exact ⟨rfl, ⟨_, _, _, _, _, _, _, _, _, _, h1⟩, below_step (Below.refl B w) h2 hz (fun i hi e => by omega), fun k hk => h2.block k (h.fz k hk).1 (fun e => by have := h.fz k hk; omega)⟩
theorem sc_pload (t : List UInt8) (ht : t.length ≤ 65536) (h : ScE w Z B s p m tv S P TO) (hg : P.gen < big) :
    Calls Tryd.prog 41 #[.pointer (some ⟨p, 0, none⟩), .string (str t)] w fun e w' => e = .returned (.tuple #[.int .i64 (loadP P t).2.1, .int .i64 (loadP P t).2.2]) ∧ ScE w' Z B s p m tv S (loadP P t).1 TO ∧ Below B w w' ∧ ∀ k, Z k → w'.heap[k]? = w.heap[k]? := by
  have hz := h.size
  obtain ⟨mp, lo, hi, n, nv, a1, a2, a3, sv, wv, h⟩ := h
  refine (pload_any P t ht w h.pl hg h.max).mono ?_
  rintro e w' ⟨rfl, hto⟩
  obtain ⟨b1, b2, b3, b4, h1, h2⟩ := h.plain hto
  have := h.pl.hb
  exact ⟨rfl, ⟨_, _, _, _, _, _, _, _, _, _, h1⟩, below_step (Below.refl B w) h2 hz (fun i hi e => by omega), fun k hk => h2.block k (h.fz k hk).1 (fun e => by have := h.fz k hk; omega)⟩
theorem sc_pweight (y : List UInt8) (x : Int) (h : ScE w Z B s p m tv S P TO) (hg : P.gen < big) (hn : P.sets.length < big) (ho : P.ok) :
    Calls Tryd.prog 42 #[.pointer (some ⟨p, 0, none⟩), .string (str y), .int .i64 x] w fun e w' => e = .returned (.int .i64 ((weightP P y x).2 : Int)) ∧ ScE w' Z B s p m tv S (weightP P y x).1 TO ∧ Below B w w' ∧ ∀ k, Z k → w'.heap[k]? = w.heap[k]? := by
  have hz := h.size
  obtain ⟨mp, lo, hi, n, nv, a1, a2, a3, sv, wv, h⟩ := h
  refine (pweight_any P y x w h.pl hg hn ho.len (fun hh => ho.tree hh)).mono ?_
  rintro e w' ⟨rfl, hto⟩
  obtain ⟨b1, b2, b3, b4, h1, h2⟩ := h.plain hto
  have := h.pl.hb
  exact ⟨rfl, ⟨_, _, _, _, _, _, _, _, _, _, h1⟩, below_step (Below.refl B w) h2 hz (fun i hi e => by omega), fun k hk => h2.block k (h.fz k hk).1 (fun e => by have := h.fz k hk; omega)⟩
theorem sc_padd (o : Wo) (h : ScE w Z B s p m tv S P TO) :
    Calls Tryd.prog 43 #[.pointer (some ⟨p, 0, none⟩), .agg #[.int .i64 o.kind, .string (str o.text), .string (str o.name), .int .i64 o.w]] w fun e w' => e = .returned (.int .i64 ((addP P o).2 : Int)) ∧ ScE w' Z B s p m tv S (addP P o).1 TO ∧ Below B w w' ∧ ∀ k, Z k → w'.heap[k]? = w.heap[k]? := by
  have hz := h.size
  obtain ⟨mp, lo, hi, n, nv, a1, a2, a3, sv, wv, h⟩ := h
  refine (padd_any P o w h.pl).mono ?_
  rintro e w' ⟨rfl, hto⟩
  obtain ⟨b1, b2, b3, b4, b5, h1, h2⟩ := h.padd hto
  have := h.pl.hb
  exact ⟨rfl, ⟨_, _, _, _, _, _, _, _, _, _, h1⟩, below_step (Below.refl B w) h2 hz (fun i hi e => by
    rcases e with e | e
    · omega
    · have := (World.ownsRow.lt h.pl.rows.wait _ e).1; omega), fun k hk => h2.block k (h.fz k hk).1 (fun e => by
    have := h.fz k hk
    rcases e with e | e
    · omega
    · exact this.2.2.2.2 e)⟩
theorem sc_pcommit (h : ScE w Z B s p m tv S P TO) (ho : P.ok) (hg : P.gen + P.wait.length < big) (hn : P.sets.length + P.wait.length < big) (hcs : ∀ c ∈ P.wait, c.text.length ≤ 65536) :
    Calls Tryd.prog 44 #[.pointer (some ⟨p, 0, none⟩)] w fun e w' => e = .returned (.int .i64 (commitP P).2) ∧ ScE w' Z B s p m tv S (commitP P).1 TO ∧ Below B w w' ∧ ∀ k, Z k → w'.heap[k]? = w.heap[k]? := by
  have hz := h.size
  obtain ⟨mp, lo, hi, n, nv, a1, a2, a3, sv, wv, h⟩ := h
  refine (pcommit_any P w h.pl ho hg hn h.max hcs).mono ?_
  rintro e w' ⟨rfl, hto⟩
  obtain ⟨b1, b2, b3, b4, h1, h2⟩ := h.plain hto
  have := h.pl.hb
  exact ⟨rfl, ⟨_, _, _, _, _, _, _, _, _, _, h1⟩, below_step (Below.refl B w) h2 hz (fun i hi e => by omega), fun k hk => h2.block k (h.fz k hk).1 (fun e => by have := h.fz k hk; omega)⟩
theorem sc_xload (y : List UInt8) (h : ScE w Z B s p m tv S P TO) :
    Calls Tryd.prog 21 #[tv, .string (str y)] w fun e w' => e = .returned (.int .i64 ((addO TO ⟨y, [], 0⟩).2 : Int)) ∧ ScE w' Z B s p m tv S P (addO TO ⟨y, [], 0⟩).1 ∧ Below B w w' ∧ ∀ k, Z k → w'.heap[k]? = w.heap[k]? := by
  have hz := h.size
  have hsc := h
  obtain ⟨mp, lo, hi, n, nv, a1, a2, a3, sv, wv, h⟩ := h
  rcases TO with _ | T
  · obtain rfl : tv = .pointer none := h.tx
    refine (xload_nil y w).mono ?_
    rintro e w' ⟨rfl, hb⟩
    exact ⟨rfl, hsc.below hb, hb.mono hz, fun k hk => hb.block k (h.fz k hk).1⟩
  · obtain ⟨t, lv, rfl, hT, h2, h3, hz9⟩ := h.tx
    refine (xload_any T y w hT).mono ?_
    rintro e w' ⟨rfl, hto⟩
    obtain ⟨h4, h5⟩ := h.tadd hT ⟨h2, h3, hz9⟩ hto
    have := hT.hb
    exact ⟨rfl, ⟨_, _, _, _, _, _, _, _, _, _, h4⟩, below_step (Below.refl B w) h5 hz (fun i hi e => by
      rcases e with e | e
      · omega
      · have := (World.ownsRow.lt hT.row _ e).1; omega), fun k hk => h5.block k (h.fz k hk).1 (fun e => by
      have := hz9 k hk
      rcases e with e | e
      · omega
      · exact this.2 e)⟩
theorem sc_xweight (y : List UInt8) (x : Int) (h : ScE w Z B s p m tv S P TO) :
    Calls Tryd.prog 24 #[tv, .string (str y), .int .i64 x] w fun e w' => e = .returned (.int .i64 ((addO TO ⟨[], y, x⟩).2 : Int)) ∧ ScE w' Z B s p m tv S P (addO TO ⟨[], y, x⟩).1 ∧ Below B w w' ∧ ∀ k, Z k → w'.heap[k]? = w.heap[k]? := by
  have hz := h.size
  have hsc := h
  obtain ⟨mp, lo, hi, n, nv, a1, a2, a3, sv, wv, h⟩ := h
  rcases TO with _ | T
  · obtain rfl : tv = .pointer none := h.tx
    refine (xweight_nil y x w).mono ?_
    rintro e w' ⟨rfl, hb⟩
    exact ⟨rfl, hsc.below hb, hb.mono hz, fun k hk => hb.block k (h.fz k hk).1⟩
  · obtain ⟨t, lv, rfl, hT, h2, h3, hz9⟩ := h.tx
    refine (xweight_any T y x w hT).mono ?_
    rintro e w' ⟨rfl, hto⟩
    obtain ⟨h4, h5⟩ := h.tadd hT ⟨h2, h3, hz9⟩ hto
    have := hT.hb
    exact ⟨rfl, ⟨_, _, _, _, _, _, _, _, _, _, h4⟩, below_step (Below.refl B w) h5 hz (fun i hi e => by
      rcases e with e | e
      · omega
      · have := (World.ownsRow.lt hT.row _ e).1; omega), fun k hk => h5.block k (h.fz k hk).1 (fun e => by
      have := hz9 k hk
      rcases e with e | e
      · omega
      · exact this.2 e)⟩
theorem sc_drop (h : ScE w Z B s p m tv S P TO) :
    Calls Tryd.prog 15 #[tv] w fun e w' => e = .returned (.tuple #[]) ∧ ScE w' Z B s p m tv S P (dropO TO) ∧ Below B w w' ∧ ∀ k, Z k → w'.heap[k]? = w.heap[k]? := by
  have hz := h.size
  have hsc := h
  obtain ⟨mp, lo, hi, n, nv, a1, a2, a3, sv, wv, h⟩ := h
  rcases TO with _ | T
  · obtain rfl : tv = .pointer none := h.tx
    refine (drop_nil w).mono ?_
    rintro e w' ⟨rfl, rfl⟩
    exact ⟨rfl, hsc, Below.refl _ _, fun k hk => rfl⟩
  · obtain ⟨t, lv, rfl, hT, h2, h3, hz9⟩ := h.tx
    refine (drop_any hT).mono ?_
    rintro e w' ⟨rfl, h4, h5⟩
    have := hT.hb
    exact ⟨rfl, ⟨_, _, _, _, _, _, _, _, _, _, h.tover hT ⟨h2, h3, hz9⟩ h4 h5⟩, below_step (Below.refl B w) h5 hz (fun i hi e => by omega), fun k hk => h5.block k (h.fz k hk).1 (fun e => by have := hz9 k hk; have := h.fz k hk; omega)⟩
theorem sc_commit (h : ScE w Z B s p m tv S P TO) (hr : TxRel P TO) (hg : S.gen + 64 < big) (hm : m + 64 < big) :
    Calls Tryd.prog 20 #[tv] w fun e w' => e = .returned (.int .i64 (comO S TO).2) ∧ ScE w' Z B s p (m + 64) tv (comO S TO).1 P (dropO TO) ∧ Below B w w' ∧ ∀ k, Z k → w'.heap[k]? = w.heap[k]? := by
  have hz := h.size
  have hsc := h
  obtain ⟨mp, lo, hi, n, nv, a1, a2, a3, sv, wv, h⟩ := h
  rcases TO with _ | T
  · obtain rfl : tv = .pointer none := h.tx
    refine (commit_nil w).mono ?_
    rintro e w' ⟨rfl, rfl⟩
    exact ⟨rfl, hsc.more (by omega), Below.refl _ _, fun k hk => rfl⟩
  · obtain ⟨t, lv, rfl, hT, h2, h3, hz9⟩ := h.tx
    obtain ⟨-, -, -, hl, h64, htx⟩ := hr
    have hlen : T.list.length ≤ 64 := by rw [hl.1]; exact h64
    refine (commit_any S T w h.st hT h2 (by omega) (by have := h.n; omega) h.max (fun c hc => ?_)).mono ?_
    · obtain ⟨i, hi⟩ := List.mem_iff_getElem?.1 hc
      have hil := (List.getElem?_eq_some_iff.1 hi).1
      have ho := List.getElem?_eq_getElem (l := P.wait) (i := i) (by rw [← hl.1]; exact hil)
      have h5 := hl.2 i c _ hi ho
      have h6 := htx _ (List.mem_of_getElem? ho)
      unfold Tells at h5
      split at h5
      · rw [h5]; exact ⟨h6.1, by unfold maxLen; simp⟩
      · rw [h5]; exact ⟨by simp, h6.2⟩
    · rintro e w' ⟨rfl, hto⟩
      obtain ⟨mp', lo', hi', n', nv', h4, h5⟩ := h.commit hT ⟨h2, h3, hz9⟩ hlen hto
      have := hT.hb
      have := h.bs
      exact ⟨rfl, ⟨_, _, _, _, _, _, _, _, _, _, h4⟩, below_step (Below.refl B w) h5 hz (fun i hi e => by omega), fun k hk => h5.block k (h.fz k hk).1 (fun e => by have := hz9 k hk; have := h.fz k hk; omega)⟩
end
end Store20
end Go.Proofs.YtcpokkkdmenmgaaDoor
/- store, the law, plain: what each call makes of what both stores have. No condition. -/
namespace Go.Proofs.YtcpokkkdmenmgaaDoor
open Go.RowKit Go.ChangeShapes Go.WideShapes Go.ChangeAt Go.Deep
namespace Store20
open Conf18 (Nd Vp Vw Cfg zA confF)
open Val19
theorem loadP_keep (P : Pl) (t : List UInt8) : (loadP P t).1.made = P.made ∧ (loadP P t).1.op = P.op ∧ (loadP P t).1.fr = P.fr ∧ (loadP P t).1.wait = P.wait := by
  unfold loadP
  split
  · exact ⟨rfl, rfl, rfl, rfl⟩
  · split
    · exact ⟨rfl, rfl, rfl, rfl⟩
    · exact ⟨rfl, rfl, rfl, rfl⟩
theorem weightP_keep (P : Pl) (s : List UInt8) (x : Int) : (weightP P s x).1.made = P.made ∧ (weightP P s x).1.op = P.op ∧ (weightP P s x).1.fr = P.fr ∧ (weightP P s x).1.wait = P.wait := by
  unfold weightP
  split
  · exact ⟨rfl, rfl, rfl, rfl⟩
  · split
    · exact ⟨rfl, rfl, rfl, rfl⟩
    · split
      · exact ⟨rfl, rfl, rfl, rfl⟩
      · exact ⟨rfl, rfl, rfl, rfl⟩
theorem TxRel.of {P P' : Pl} {TO : Option Tx} (h : TxRel P TO) (h1 : P'.made = P.made ∧ P'.op = P.op ∧ P'.fr = P.fr ∧ P'.wait = P.wait) : TxRel P' TO := by
  obtain ⟨e1, e2, e3, e4⟩ := h1
  rcases TO with _ | T
  · exact ⟨e1.trans h.1, e4.trans h.2⟩
  · obtain ⟨a1, a2, a3, a4, a5, a6⟩ := h
    exact ⟨e1.trans a1, by rw [e2]; exact a2, by rw [e3]; exact a3, by rw [e4]; exact a4, by rw [e4]; exact a5, by rw [e4]; exact a6⟩
section
variable {m : Nat} {S : St} {P : Pl} {TO : Option Tx}
theorem Rel.more {m' : Nat} (h : Rel m S P TO) (hm : m ≤ m') : Rel m' S P TO := ⟨h.al, h.ok, Nat.le_trans h.gen hm, Nat.le_trans h.sets hm, h.tx⟩
theorem loadS_n (S : St) (t : List UInt8) : (loadS S t).1.gen ≤ S.gen + 1 := by
  unfold loadS
  split
  · exact Nat.le_succ _
  · split
    · exact Nat.le_succ _
    · exact Nat.le_refl _
theorem weightS_n (S : St) (y : List UInt8) (x : Int) : (weightS S y x).1.gen ≤ S.gen + 1 := by
  unfold weightS
  split
  · exact Nat.le_succ _
  · split
    · exact Nat.le_succ _
    · split
      · exact Nat.le_succ _
      · exact Nat.le_refl _
theorem Rel.load (h : Rel m S P TO) {t : List UInt8} (ht : t.length ≤ 65536) : (loadS S t).2 = (loadP P t).2 ∧ Rel (m + 1) (loadS S t).1 (loadP P t).1 TO := by
  obtain ⟨h1, h2⟩ := h.al.load t
  have h3 := loadS_n S t
  have h4 := (loadP_n P t).2
  have := h.gen
  have := h.sets
  exact ⟨h1, h2, loadP_ok h.ok ht, by omega, by omega, h.tx.of (loadP_keep P t)⟩
theorem Rel.weight (h : Rel m S P TO) (y : List UInt8) (x : Int) : (weightS S y x).2 = (weightP P y x).2 ∧ Rel (m + 1) (weightS S y x).1 (weightP P y x).1 TO := by
  obtain ⟨h1, h2⟩ := h.al.weight y x
  have h3 := weightS_n S y x
  have h4 := (weightP_n P y x).2
  have := h.gen
  have := h.sets
  exact ⟨h1, h2, weightP_ok h.ok y x, by omega, by omega, h.tx.of (weightP_keep P y x)⟩
theorem TellsL.snoc {cs : List Ch} {os : List Wo} {c : Ch} {o : Wo} (h : TellsL cs os) (hc : Tells c o) : TellsL (cs ++ [c]) (os ++ [o]) := by
  refine ⟨by simp [h.1], fun i c' o' h1 h2 => ?_⟩
  by_cases hi : i < cs.length
  · rw [List.getElem?_append_left hi] at h1
    rw [List.getElem?_append_left (by rw [← h.1]; exact hi)] at h2
    exact h.2 i c' o' h1 h2
  · rw [List.getElem?_append_right (by omega)] at h1
    rw [List.getElem?_append_right (by rw [← h.1]; omega)] at h2
    have e : i - cs.length = 0 := by
      have := (List.getElem?_eq_some_iff.1 h1).1
      simp at this
      omega
    rw [e] at h1
    rw [← h.1, e] at h2
    cases h1
    cases h2
    exact hc
theorem Rel.add (h : Rel m S P TO) {c : Ch} {o : Wo} (hc : Tells c o) (ho : o.text.length ≤ 65536 ∧ o.name.length ≤ maxLen) : (addO TO c).2 = (addP P o).2 ∧ Rel m S (addP P o).1 (addO TO c).1 := by
  have ht := h.tx
  rcases TO with _ | T
  · have e : addP P o = (P, 9) := if_pos (.inl ht.1)
    rw [e]
    exact ⟨rfl, h⟩
  · obtain ⟨a1, a2, a3, a4, a5, a6⟩ := ht
    show (addT T c).2 = _ ∧ Rel m S _ (some (addT T c).1)
    unfold addT addP
    by_cases hop : P.op = true
    · rw [if_neg (show ¬T.over = true by rw [a2, hop]; decide), if_neg (show ¬(P.made = false ∨ P.op = false) by rw [a1, hop]; decide), a4.1]
      by_cases h64 : 64 ≤ P.wait.length
      · rw [if_pos h64, if_pos h64]
        exact ⟨rfl, h⟩
      · rw [if_neg h64, if_neg h64]
        refine ⟨rfl, ⟨⟨h.al.c, h.al.gen, h.al.sets⟩, ⟨h.ok.v, h.ok.len⟩, h.gen, h.sets, a1, a2, a3, a4.snoc hc, by simp only [List.length_append, List.length_singleton]; omega, fun q hq => ?_⟩⟩
        rcases List.mem_append.1 hq with hq | hq
        · exact a6 q hq
        · rw [List.mem_singleton] at hq
          subst hq
          exact ho
    · have hop2 : P.op = false := by simpa using hop
      rw [if_pos (show T.over = true by rw [a2, hop2]; rfl), if_pos (show P.made = false ∨ P.op = false from .inr hop2)]
      exact ⟨rfl, h⟩
theorem Rel.drop (h : Rel m S P TO) : Rel m S { P with op := false } (dropO TO) := by
  refine ⟨⟨h.al.c, h.al.gen, h.al.sets⟩, ⟨h.ok.v, h.ok.len⟩, h.gen, h.sets, ?_⟩
  have ht := h.tx
  rcases TO with _ | T
  · exact ht
  · obtain ⟨a1, a2, a3, a4, a5, a6⟩ := ht
    exact ⟨a1, rfl, a3, a4, a5, a6⟩
theorem runP_n : ∀ (l : List Wo) (P X : Pl), runP P l = .ok X → X.sets.length ≤ P.sets.length + l.length
  | [], P, X, h => by cases h; exact Nat.le_refl _
  | o :: l, P, X, h => by
    rw [runP] at h
    split at h
    · have h1 := runP_n l _ X h
      have h2 := (chP_n P o).2
      rw [List.length_cons]
      omega
    · cases h
theorem runP_ok : ∀ (l : List Wo) (P X : Pl), P.ok → (∀ o ∈ l, o.text.length ≤ 65536) → runP P l = .ok X → X.ok
  | [], P, X, ho, _, h => by cases h; exact ho
  | o :: l, P, X, ho, hl, h => by
    rw [runP] at h
    split at h
    · exact runP_ok l _ X (chP_ok ho (hl o (by simp))) (fun q hq => hl q (by simp [hq])) h
    · cases h
theorem Rel.commit (h : Rel m S P TO) : (comO S TO).2 = (commitP P).2 ∧ Rel (m + 64) (comO S TO).1 (commitP P).1 (dropO TO) := by
  have ht := h.tx
  have hd := h.drop
  rcases TO with _ | T
  · have e : commitP P = (P, 9) := if_pos (.inl ht.1)
    rw [e]
    exact ⟨rfl, h.more (by omega)⟩
  · obtain ⟨a1, a2, a3, a4, a5, a6⟩ := ht
    show (commitS S T).2 = _ ∧ Rel (m + 64) (commitS S T).1 _ (some { T with over := true })
    unfold commitS commitP
    by_cases hop : P.op = true
    · rw [if_neg (show ¬T.over = true by rw [a2, hop]; decide), if_neg (show ¬(P.made = false ∨ P.op = false) by rw [a1, hop]; decide)]
      by_cases hfr : P.fr = P.gen
      · rw [if_neg (show ¬T.gen ≠ S.gen by rw [a3, h.al.gen]; exact fun e => e hfr), if_neg (show ¬P.fr ≠ P.gen from fun e => e hfr)]
        have hal : Alike S (startX P) := ⟨h.al.c, h.al.gen, h.al.sets⟩
        rcases Alike.run T.list P.wait S (startX P) hal a4 with ⟨e, e1, e2⟩ | ⟨S', X, e1, e2, h2⟩
        · rw [e1, e2]
          exact ⟨rfl, hd.more (by omega)⟩
        · rw [e1, e2]
          dsimp only
          have hn := runP_n P.wait (startX P) X e2
          have hsets : (startX P).sets.length = P.sets.length := rfl
          have hox := runP_ok P.wait (startX P) X ⟨h.ok.v, h.ok.len⟩ (fun o ho => (a6 o ho).1) e2
          have hgm := h.gen
          have hsm := h.sets
          have hge := h.al.gen
          by_cases hw : P.wait = []
          · have hl : T.list = [] := List.length_eq_zero_iff.1 (by rw [a4.1, hw]; rfl)
            have e3 : S' = S := by
              have := e1
              rw [hl] at this
              cases this
              rfl
            rw [if_pos hl, if_pos hw]
            refine ⟨rfl, ⟨⟨h2.c, ?_, h2.sets⟩, ⟨hox.v, hox.len⟩, ?_, ?_, a1, rfl, a3, a4, a5, a6⟩⟩
            · rw [e3]; exact hge
            · rw [e3]; omega
            · show X.sets.length ≤ _; omega
          · have hl : T.list ≠ [] := by
              intro e
              apply hw
              exact List.length_eq_zero_iff.1 (by rw [← a4.1, e]; rfl)
            rw [if_neg hl, if_neg hw]
            refine ⟨rfl, ⟨⟨h2.c, ?_, h2.sets⟩, ⟨hox.v, hox.len⟩, ?_, ?_, a1, rfl, a3, a4, a5, a6⟩⟩
            · show T.gen + 1 = P.gen + 1; rw [a3, hfr]
            · show T.gen + 1 ≤ _; omega
            · show X.sets.length ≤ _; omega
      · rw [if_pos (show T.gen ≠ S.gen by rw [a3, h.al.gen]; exact hfr), if_pos (show P.fr ≠ P.gen from hfr)]
        exact ⟨rfl, hd.more (by omega)⟩
    · have hop2 : P.op = false := by simpa using hop
      rw [if_pos (show T.over = true by rw [a2, hop2]; rfl), if_pos (show P.made = false ∨ P.op = false from .inr hop2)]
      have e : { P with op := false } = P := by
        obtain ⟨c, has, gen, sets, op, made, fr, wait⟩ := P
        dsimp only at hop2
        subst hop2
        rfl
      rw [e] at hd
      exact ⟨rfl, hd.more (by omega)⟩
end
end Store20
end Go.Proofs.YtcpokkkdmenmgaaDoor
/- store, the law: step: a call of both. Conditions: texts of at most 65536 bytes, fewer than 2^39 changes. -/
namespace Go.Proofs.YtcpokkkdmenmgaaDoor
open Go.RowKit Go.ChangeShapes Go.WideShapes Go.ChangeAt Go.Deep
namespace Store20
open Conf18 (Nd Vp Vw Cfg zA MapI lt_of_blk confF)
open Addr05 (Adr MaxAt)
open Val19
/-- A block stays. -/
def AtZ (z : Nat) (a b : World) : Prop := b.heap[z]? = a.heap[z]?
instance atZ_rel (z : Nat) : IsRel (AtZ z) := ⟨fun _ => rfl, fun _ _ _ h k => Eq.trans k h⟩
/-- What step leaves. -/
def StepTo (Z : Nat → Prop) (w w' : World) (B s p m : Nat) (tv : Value) : Prop := ∃ S P TO, ScE w' Z B s p m tv S P TO ∧ Rel m S P TO ∧ Below B w w' ∧ ∀ k, Z k → w'.heap[k]? = w.heap[k]?
theorem StepTo.mk' {Z : Nat → Prop} {z : Nat} {w w1 w' : World} {B s p m m' : Nat} {tv : Value} {S : St} {P : Pl} {TO : Option Tx} (h : ScE w' (fun k => Z k ∨ k = z) B s p m tv S P TO) (hr : Rel m S P TO) (hb : Below B w w') (hm : m ≤ m') (hk1 : ∀ k, Z k → w1.heap[k]? = w.heap[k]?) (hk : ∀ k, Z k ∨ k = z → w'.heap[k]? = w1.heap[k]?) : StepTo Z w w' B s p m' tv :=
  ⟨S, P, TO, (h.less fun _ => .inl).more hm, hr.more hm, hb, fun k hZ => (hk k (.inl hZ)).trans (hk1 k hZ)⟩
set_option maxRecDepth 20000 in
set_option maxHeartbeats 16000000 in
theorem step_any {Z : Nat → Prop} {B s p m : Nat} {tv : Value} {S : St} {P : Pl} {TO : Option Tx} (o : Wo) (w : World) (ht : o.text.length ≤ 65536) (hn : o.name.length ≤ maxLen) (h : ScE w Z B s p m tv S P TO) (hr : Rel m S P TO) (hm : m + 200 < big) :
    Calls Tryd.prog 25 #[.pointer (some ⟨s, 0, none⟩), tv, .pointer (some ⟨p, 0, none⟩), .agg #[.int .i64 o.kind, .string (str o.text), .string (str o.name), .int .i64 o.w]] w fun e w' => e = .returned (.bool true) ∧ StepTo Z w w' B s p (m + 65) tv := by
  obtain ⟨w1, hw1⟩ : ∃ w1, w.alloc (.cells #[.int .i64 o.kind, .string (str o.text), .string (str o.name), .int .i64 o.w] 65) = w1 := ⟨_, rfl⟩
  have hb1 : Below w.heap.size w w1 := hw1 ▸ (Below.refl _ _).alloc (Nat.le_refl _) _
  have hg1 : w1.heap[w.heap.size]? = some (.cells #[.int .i64 o.kind, .string (str o.text), .string (str o.name), .int .i64 o.w] 65 (0, 0)) := hw1 ▸ blk_new _ _ _
  have hz := h.size
  have h1 := h.fresh (z := w.heap.size) hb1 ⟨Nat.le_refl _, lt_of_blk hg1⟩
  have hB1 : Below B w w1 := hb1.mono hz
  have hkz : ∀ k, Z k → w1.heap[k]? = w.heap[k]? := by
    obtain ⟨mp, lo, hi, n, nv, a1, a2, a3, sv, wv, h⟩ := h
    exact fun k hk => hb1.block k (h.fz k hk).1
  have hgs := hr.gen
  have hge := hr.al.gen
  have hss := hr.sets
  obtain ⟨ok, ot, on, ow⟩ := o
  dsimp only at ht hn hw1 hg1 ⊢
  have d0 := blk_cell hg1 0
  have d1 := blk_cell hg1 1
  have d2 := blk_cell hg1 2
  have d3 := blk_cell hg1 3
  have hz1 := lt_of_blk hg1
  obtain ⟨z, hzz⟩ : ∃ z, w.heap.size = z := ⟨_, rfl⟩
  rw [hzz] at hz1 hg1 d0 d1 d2 d3 hz h1
  clear h hb1
  replace h1 := hide h1
  replace hB1 := hide hB1
  replace hr := hide hr
  replace hg1 := hide hg1
  replace hkz := hide hkz
  go_enter Tryd.func25, Tryd.ntmps25
  go_upto_region 1 with fail
  clear hw1
  by_cases k0 : ok = 0
  · subst k0
    obtain ⟨e1, hr2⟩ := hr.out.load ht
    have q1 := sc_load ot ht h1.out (by omega)
    obtain ⟨⟨N, E⟩, hNE⟩ : ∃ r, (loadS S ot).2 = r := ⟨_, rfl⟩
    rw [hNE] at q1 e1
    dsimp only at q1
    replace q1 := hide q1
    replace hr2 := hide hr2
    go_wp2_with fail
    refine (q1.out).mono ?_
    rintro e w2 ⟨rfl, h2, hB2, hk2⟩
    have q2 := sc_pload ot ht h2 (by omega)
    rw [← e1] at q2
    dsimp only at q2
    have hBB := hB1.out.trans hB2
    have d1 := blk_cell ((hk2 z (.inr rfl)).trans hg1.out) 1
    clear q1 h1 hB1 hB2 h2 d0 d2 d3
    replace q2 := hide q2
    replace hBB := hide hBB
    replace hk2 := hide hk2
    go_wp2_with fail
    refine (q2.out).mono ?_
    rintro e w3 ⟨rfl, h3, hB3, hk3⟩
    have hfin := StepTo.mk' (m' := m + 65) h3 hr2.out (hBB.out.trans hB3) (by omega) hkz.out (fun k hk => (hk3 k hk).trans (hk2.out k hk))
    clear q2 hBB hB3 h3 hk2 hk3 d1 hr hr2 hkz hg1
    replace hfin := hide hfin
    go_wp2_with fail
    go_ret
    exact ⟨rfl, hfin.out⟩
  by_cases k1 : ok = 1
  · subst k1
    obtain ⟨e1, hr2⟩ := hr.out.weight on ow
    have q1 := sc_weight on hn ow h1.out (by omega) (by omega)
    obtain ⟨N, hN⟩ : ∃ r, (weightS S on ow).2 = r := ⟨_, rfl⟩
    rw [hN] at q1 e1
    have hok := hr.out.ok
    clear q1
    replace hr2 := hide hr2
    replace hok := hide hok
    go_upto_region 10 with fail
    refine wp_region_X (AtZ z) (by as_aux_lemma => kernel_rfl) ?_
    intro w2 hbd
    have h2 := h1.out.below hbd
    have hB2 := hB1.out.trans (hbd.mono (by have := hB1.out.size; omega))
    have hg2 := blk_below hbd hz1 hg1.out
    have hk2 : ∀ k, Z k ∨ k = z → w2.heap[k]? = w1.heap[k]? := by
      obtain ⟨mp, lo, hi, n, nv, a1, a2, a3, sv, wv, h⟩ := h1.out
      exact fun k hk => hbd.block k (h.fz k hk).1
    have q1 := sc_weight on hn ow h2 (by omega) (by omega)
    rw [hN] at q1
    have l2 := fun l : RelW (AtZ z) w2 => blk_cell (Eq.trans l.hk hg2) 2
    have l3 := fun l : RelW (AtZ z) w2 => blk_cell (Eq.trans l.hk hg2) 3
    clear h1 hB1 hbd hg1 h2 hg2 d0 d1 d2 d3
    replace q1 := hide q1
    replace hB2 := hide hB2
    replace hk2 := hide hk2
    refine wpX_seg (AtZ z) 0 5 (fuel := 9) (by as_aux_lemma => kernel_rfl) (fun d _ _ _ _ h => by cases d <;> exact h) (by as_aux_lemma => kernel_rfl) (by as_aux_lemma => kernel_rfl) ?_
    simp only [List.drop_zero, List.take_succ_cons, List.take_zero]
    iterate 5 (refine wpQX_step (fun K hK => ?_); go_simp; refine hK _ ?_; clear hK K)
    refine wpQF_nil ?_
    refine wpX_seg (AtZ z) 6 5 (fuel := 4) (by as_aux_lemma => kernel_rfl) (fun d _ _ _ _ h => by cases d <;> exact h) (by as_aux_lemma => kernel_rfl) (by as_aux_lemma => kernel_rfl) ?_
    simp only [List.drop_succ_cons, List.drop_zero, List.take_succ_cons, List.take_zero]
    iterate 5 (refine wpQX_step (fun K hK => ?_); go_simp; refine hK _ ?_; clear hK K)
    refine wpQF_nil ?_
    clear l2 l3
    refine wpF_step 5 rfl (by as_aux_lemma => kernel_rfl) (fun K hK => ?_)
    go_simp
    go_at_call 16
    refine q1.out.mono ?_
    rintro e w3 ⟨rfl, h3, hB3, hk3⟩
    refine hK _ _ (hk3 z (.inr rfl)) ?_
    clear hK K
    have q2 := sc_pweight on ow h3 (by omega) (by omega) hok.out
    rw [← e1] at q2
    have hBB := hB2.out.trans hB3
    clear q1 hB2 hB3 h3
    replace q2 := hide q2
    replace hBB := hide hBB
    replace hk3 := hide hk3
    refine wpF_step 11 rfl (by as_aux_lemma => kernel_rfl) (fun K hK => ?_)
    go_simp
    go_at_call 42
    refine q2.out.mono ?_
    rintro e w4 ⟨rfl, h4, hB4, hk4⟩
    refine hK _ _ (hk4 z (.inr rfl)) ?_
    clear hK K
    have hfin := StepTo.mk' (m' := m + 65) h4 hr2.out (hBB.out.trans hB4) (by omega) hkz.out (fun k hk => ((hk4 k hk).trans (hk3.out k hk)).trans (hk2.out k hk))
    clear q2 hBB hB4 h4 hk2 hk3 hk4 hr hr2 hkz
    replace hfin := hide hfin
    refine wpF_step 12 rfl (by as_aux_lemma => kernel_rfl) (fun K hK => ?_)
    go_simp
    refine hK _ _ (IsRel.refl _) ?_
    clear hK K
    refine wpF_step 13 rfl (by as_aux_lemma => kernel_rfl) (fun K hK => ?_)
    go_simp
    refine hK _ _ (IsRel.refl _) ?_
    clear hK K
    refine wpF_done (by as_aux_lemma => kernel_rfl) ?_ 0
    go_wp2_with fail
    go_ret
    exact ⟨rfl, hfin.out⟩
  by_cases k3 : ok = 3
  · subst k3
    obtain ⟨e1, hr2⟩ := hr.out.add (c := ⟨ot, [], 0⟩) (o := ⟨3, ot, on, ow⟩) (by unfold Tells; rw [if_pos rfl]) ⟨ht, hn⟩
    obtain ⟨N, hN⟩ : ∃ r, (addO TO ⟨ot, [], 0⟩).2 = r := ⟨_, rfl⟩
    rw [hN] at e1
    replace hr2 := hide hr2
    go_upto_region 12 with fail
    refine wp_region_X (AtZ z) (by as_aux_lemma => kernel_rfl) ?_
    intro w2 hbd
    have h2 := h1.out.below hbd
    have hB2 := hB1.out.trans (hbd.mono (by have := hB1.out.size; omega))
    have hg2 := blk_below hbd hz1 hg1.out
    have hk2 : ∀ k, Z k ∨ k = z → w2.heap[k]? = w1.heap[k]? := by
      obtain ⟨mp, lo, hi, n, nv, a1, a2, a3, sv, wv, h⟩ := h1.out
      exact fun k hk => hbd.block k (h.fz k hk).1
    have q1 := sc_xload ot h2
    rw [hN] at q1
    have l0 := fun l : RelW (AtZ z) w2 => blk_cell (Eq.trans l.hk hg2) 0
    have l1 := fun l : RelW (AtZ z) w2 => blk_cell (Eq.trans l.hk hg2) 1
    have l2 := fun l : RelW (AtZ z) w2 => blk_cell (Eq.trans l.hk hg2) 2
    have l3 := fun l : RelW (AtZ z) w2 => blk_cell (Eq.trans l.hk hg2) 3
    clear h1 hB1 hbd hg1 h2 hg2 d0 d1 d2 d3
    replace q1 := hide q1
    replace hB2 := hide hB2
    replace hk2 := hide hk2
    refine wpX_seg (AtZ z) 0 3 (fuel := 6) (by as_aux_lemma => kernel_rfl) (fun d _ _ _ _ h => by cases d <;> exact h) (by as_aux_lemma => kernel_rfl) (by as_aux_lemma => kernel_rfl) ?_
    simp only [List.drop_zero, List.take_succ_cons, List.take_zero]
    iterate 3 (refine wpQX_step (fun K hK => ?_); go_simp; refine hK _ ?_; clear hK K)
    refine wpQF_nil ?_
    refine wpX_seg (AtZ z) 4 2 (fuel := 4) (by as_aux_lemma => kernel_rfl) (fun d _ _ _ _ h => by cases d <;> exact h) (by as_aux_lemma => kernel_rfl) (by as_aux_lemma => kernel_rfl) ?_
    simp only [List.drop_succ_cons, List.drop_zero, List.take_succ_cons, List.take_zero]
    iterate 2 (refine wpQX_step (fun K hK => ?_); go_simp; refine hK _ ?_; clear hK K)
    refine wpQF_nil ?_
    clear l0 l1 l2 l3
    refine wpF_step 3 rfl (by as_aux_lemma => kernel_rfl) (fun K hK => ?_)
    go_simp
    go_at_call 21
    refine q1.out.mono ?_
    rintro e w3 ⟨rfl, h3, hB3, hk3⟩
    refine hK _ _ (hk3 z (.inr rfl)) ?_
    clear hK K
    have q2 := sc_padd ⟨3, ot, on, ow⟩ h3
    rw [← e1] at q2
    dsimp only at q2
    have hBB := hB2.out.trans hB3
    clear q1 hB2 hB3 h3
    replace q2 := hide q2
    replace hBB := hide hBB
    replace hk3 := hide hk3
    refine wpF_step 6 rfl (by as_aux_lemma => kernel_rfl) (fun K hK => ?_)
    go_simp
    go_at_call 43
    refine q2.out.mono ?_
    rintro e w4 ⟨rfl, h4, hB4, hk4⟩
    refine hK _ _ (hk4 z (.inr rfl)) ?_
    clear hK K
    have hfin := StepTo.mk' (m' := m + 65) h4 hr2.out (hBB.out.trans hB4) (by omega) hkz.out (fun k hk => ((hk4 k hk).trans (hk3.out k hk)).trans (hk2.out k hk))
    clear q2 hBB hB4 h4 hk2 hk3 hk4 hr hr2 hkz
    replace hfin := hide hfin
    refine wpF_step 7 rfl (by as_aux_lemma => kernel_rfl) (fun K hK => ?_)
    go_simp
    refine hK _ _ (IsRel.refl _) ?_
    clear hK K
    refine wpF_step 8 rfl (by as_aux_lemma => kernel_rfl) (fun K hK => ?_)
    go_simp
    refine hK _ _ (IsRel.refl _) ?_
    clear hK K
    refine wpF_done (by as_aux_lemma => kernel_rfl) ?_ 0
    go_wp2_with fail
    go_ret
    exact ⟨rfl, hfin.out⟩
  by_cases k4 : ok = 4
  · subst k4
    obtain ⟨e1, hr2⟩ := hr.out.add (c := ⟨[], on, ow⟩) (o := ⟨4, ot, on, ow⟩) (by unfold Tells; rw [if_neg (show ¬(4 : Int) = 3 by decide)]) ⟨ht, hn⟩
    obtain ⟨N, hN⟩ : ∃ r, (addO TO ⟨[], on, ow⟩).2 = r := ⟨_, rfl⟩
    rw [hN] at e1
    replace hr2 := hide hr2
    go_upto_region 14 with fail
    refine wp_region_X (AtZ z) (by as_aux_lemma => kernel_rfl) ?_
    intro w2 hbd
    have h2 := h1.out.below hbd
    have hB2 := hB1.out.trans (hbd.mono (by have := hB1.out.size; omega))
    have hg2 := blk_below hbd hz1 hg1.out
    have hk2 : ∀ k, Z k ∨ k = z → w2.heap[k]? = w1.heap[k]? := by
      obtain ⟨mp, lo, hi, n, nv, a1, a2, a3, sv, wv, h⟩ := h1.out
      exact fun k hk => hbd.block k (h.fz k hk).1
    have q1 := sc_xweight on ow h2
    rw [hN] at q1
    have l0 := fun l : RelW (AtZ z) w2 => blk_cell (Eq.trans l.hk hg2) 0
    have l1 := fun l : RelW (AtZ z) w2 => blk_cell (Eq.trans l.hk hg2) 1
    have l2 := fun l : RelW (AtZ z) w2 => blk_cell (Eq.trans l.hk hg2) 2
    have l3 := fun l : RelW (AtZ z) w2 => blk_cell (Eq.trans l.hk hg2) 3
    clear h1 hB1 hbd hg1 h2 hg2 d0 d1 d2 d3
    replace q1 := hide q1
    replace hB2 := hide hB2
    replace hk2 := hide hk2
    refine wpX_seg (AtZ z) 0 5 (fuel := 6) (by as_aux_lemma => kernel_rfl) (fun d _ _ _ _ h => by cases d <;> exact h) (by as_aux_lemma => kernel_rfl) (by as_aux_lemma => kernel_rfl) ?_
    simp only [List.drop_zero, List.take_succ_cons, List.take_zero]
    iterate 5 (refine wpQX_step (fun K hK => ?_); go_simp; refine hK _ ?_; clear hK K)
    refine wpQF_nil ?_
    refine wpX_seg (AtZ z) 6 2 (fuel := 4) (by as_aux_lemma => kernel_rfl) (fun d _ _ _ _ h => by cases d <;> exact h) (by as_aux_lemma => kernel_rfl) (by as_aux_lemma => kernel_rfl) ?_
    simp only [List.drop_succ_cons, List.drop_zero, List.take_succ_cons, List.take_zero]
    iterate 2 (refine wpQX_step (fun K hK => ?_); go_simp; refine hK _ ?_; clear hK K)
    refine wpQF_nil ?_
    clear l0 l1 l2 l3
    refine wpF_step 5 rfl (by as_aux_lemma => kernel_rfl) (fun K hK => ?_)
    go_simp
    go_at_call 24
    refine q1.out.mono ?_
    rintro e w3 ⟨rfl, h3, hB3, hk3⟩
    refine hK _ _ (hk3 z (.inr rfl)) ?_
    clear hK K
    have q2 := sc_padd ⟨4, ot, on, ow⟩ h3
    rw [← e1] at q2
    dsimp only at q2
    have hBB := hB2.out.trans hB3
    clear q1 hB2 hB3 h3
    replace q2 := hide q2
    replace hBB := hide hBB
    replace hk3 := hide hk3
    refine wpF_step 8 rfl (by as_aux_lemma => kernel_rfl) (fun K hK => ?_)
    go_simp
    go_at_call 43
    refine q2.out.mono ?_
    rintro e w4 ⟨rfl, h4, hB4, hk4⟩
    refine hK _ _ (hk4 z (.inr rfl)) ?_
    clear hK K
    have hfin := StepTo.mk' (m' := m + 65) h4 hr2.out (hBB.out.trans hB4) (by omega) hkz.out (fun k hk => ((hk4 k hk).trans (hk3.out k hk)).trans (hk2.out k hk))
    clear q2 hBB hB4 h4 hk2 hk3 hk4 hr hr2 hkz
    replace hfin := hide hfin
    refine wpF_step 9 rfl (by as_aux_lemma => kernel_rfl) (fun K hK => ?_)
    go_simp
    refine hK _ _ (IsRel.refl _) ?_
    clear hK K
    refine wpF_step 10 rfl (by as_aux_lemma => kernel_rfl) (fun K hK => ?_)
    go_simp
    refine hK _ _ (IsRel.refl _) ?_
    clear hK K
    refine wpF_done (by as_aux_lemma => kernel_rfl) ?_ 0
    go_wp2_with fail
    go_ret
    exact ⟨rfl, hfin.out⟩
  by_cases k5 : ok = 5
  · subst k5
    obtain ⟨e1, hr2⟩ := hr.out.commit
    have q1 := sc_commit h1.out hr.out.tx (by omega) (by omega)
    obtain ⟨N, hN⟩ : ∃ r, (comO S TO).2 = r := ⟨_, rfl⟩
    rw [hN] at q1 e1
    have hok := hr.out.ok
    have hwl : P.wait.length ≤ 64 ∧ ∀ c ∈ P.wait, c.text.length ≤ 65536 := by
      have := hr.out.tx
      rcases TO with _ | T
      · rw [this.2]; exact ⟨by decide, fun c hc => by cases hc⟩
      · exact ⟨this.2.2.2.2.1, fun c hc => (this.2.2.2.2.2 c hc).1⟩
    clear d1 d2 d3
    replace q1 := hide q1
    replace hr2 := hide hr2
    replace hok := hide hok
    replace hwl := hide hwl
    go_wp2_with fail
    refine (q1.out).mono ?_
    rintro e w2 ⟨rfl, h2, hB2, hk2⟩
    have q2 := sc_pcommit h2 hok.out (by have := hwl.out.1; omega) (by have := hwl.out.1; omega) hwl.out.2
    rw [← e1] at q2
    have hBB := hB1.out.trans hB2
    clear q1 h1 hB1 hB2 h2 d0
    replace q2 := hide q2
    replace hBB := hide hBB
    replace hk2 := hide hk2
    go_wp2_with fail
    refine (q2.out).mono ?_
    rintro e w3 ⟨rfl, h3, hB3, hk3⟩
    have hfin := StepTo.mk' (m' := m + 65) (h3.more (Nat.le_refl _)) hr2.out (hBB.out.trans hB3) (by omega) hkz.out (fun k hk => (hk3 k hk).trans (hk2.out k hk))
    clear q2 hBB hB3 h3 hk2 hk3 hr hr2 hkz hg1
    replace hfin := hide hfin
    go_wp2_with fail
    go_ret
    exact ⟨rfl, hfin.out⟩
  have q1 := sc_drop h1.out
  have hr2 := hr.out.drop
  clear d1 d2 d3
  replace q1 := hide q1
  replace hr2 := hide hr2
  go_wp2_with fail
  refine (q1.out).mono ?_
  rintro e w2 ⟨rfl, h2, hB2, hk2⟩
  have hBB := hB1.out.trans hB2
  obtain ⟨mp, lo, hi, n, nv, a1, a2, a3, sv, wv, hs⟩ := h2
  have c14 := blk_cell hs.pl.blk 14
  have f14 := blk_free hs.pl.blk 14
  unfold plA Conf18.cfC at c14
  obtain ⟨w3, hw3⟩ : ∃ w3, w2.setCell ⟨p, 14, none⟩ (.bool false) = w3 := ⟨_, rfl⟩
  obtain ⟨hg3, hk3⟩ := keptS_cell hs.pl.blk hw3
  have hr3 := hs.pl.own hk3
  have hpl : PlTo w2 w3 B p wv { P with op := false } := ⟨_, _, _, _, ⟨hg3, ⟨hr3.nodes, hr3.vips, hr3.views, hr3.sets, hr3.wait⟩, hs.pl.hb⟩, hk3⟩
  obtain ⟨b1, b2, b3, b4, h4, h5⟩ := hs.plain hpl
  have hpb := hs.pl.hb
  have hfin := StepTo.mk' (m' := m + 65) ⟨_, _, _, _, _, _, _, _, _, _, h4⟩ hr2.out (below_step hBB h5 (by have := hBB.size; omega) (fun i hi e => by omega)) (by omega) hkz.out (fun k hk => (h5.block k (hs.fz k hk).1 (fun e => by have := hs.fz k hk; omega)).trans (hk2 k hk))
  clear q1 hBB hB2 hk2 h1 hB1 hg1 hkz hr hr2 hs hg3 hk3 hr3 hpl h4 h5 d0
  replace hfin := hide hfin
  go_wp2_with fail
  go_ret
  exact ⟨rfl, hfin.out⟩
end Store20
end Go.Proofs.YtcpokkkdmenmgaaDoor
/- store, the law: a script is read as a list of calls. No condition. -/
namespace Go.Proofs.YtcpokkkdmenmgaaDoor
open Go.RowKit Go.ChangeShapes Go.WideShapes Go.ChangeAt Go.Deep
namespace Store20
theorem leafsWo : leafsOf Tryd.prog 5 65 0 = some [(3, 0), (9, 1), (9, 2), (3, 3)] := by kernel_rfl
theorem cellsWo : Tryd.prog.cellsOf 65 = 4 := by kernel_rfl
def Wo.fits (o : Wo) : Prop := o.text.length ≤ maxLen ∧ o.name.length ≤ maxLen
section
variable {H : Type} {enc : TypeId × Value → H} {w : World} {spare : Nat → Bool} {held : Bool}
theorem open_wos {m : Nat} {v : Value} {y : DataW H × List MemPlace} (h : DataW.trod enc Tryd.prog w 0 spare held m 59 [v] = some y) :
    ∃ A n c es, v = .slice A n c ∧ (IsT woC 4 w w.heap.size A n es ∧ ∀ x ∈ es, Wo.fits x) ∧ n ≤ c ∧ c ≤ maxLen :=
  open_structs Wo.fits Tryd.underlying59 cellsWo (by omega) (fun n cs y h hcl => by
    have hlf := trod_leafs cs 5 65 0 _ n y leafsWo (by rw [cellsWo, List.drop_zero, List.take_of_length_le (by omega)]; exact h)
    match cs, hcl with
    | [a, b, c, d], _ =>
      obtain ⟨_, _, t0⟩ := hlf 3 0 (by simp)
      obtain ⟨_, _, t1⟩ := hlf 9 1 (by simp)
      obtain ⟨_, _, t2⟩ := hlf 9 2 (by simp)
      obtain ⟨_, _, t3⟩ := hlf 3 3 (by simp)
      simp only [List.drop_succ_cons, List.drop_zero, List.take_succ_cons, List.take_zero] at t0 t1 t2 t3
      obtain ⟨k, rfl, _⟩ := open_i64 t0
      obtain ⟨s1, e1, _, h1⟩ := DataW.trod_string Tryd.underlying9 t1
      cases e1
      obtain ⟨s2, e2, _, h2⟩ := DataW.trod_string Tryd.underlying9 t2
      cases e2
      obtain ⟨x, rfl, _⟩ := open_i64 t3
      refine ⟨⟨k, s1.data.toList, s2.data.toList, x⟩, ?_, ?_⟩
      · show _ = [_, Value.string (str s1.data.toList), Value.string (str s2.data.toList), _]
        rw [show str s1.data.toList = s1 by cases s1; rfl, show str s2.data.toList = s2 by cases s2; rfl]
      · exact ⟨by simp only; rw [Array.length_toList]; exact h1, by simp only; rw [Array.length_toList]; exact h2⟩) h
end
end Store20
end Go.Proofs.YtcpokkkdmenmgaaDoor
