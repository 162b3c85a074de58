/- six.Quote and six.Parse by contract. Conditions: slices of bytes that read as lists. -/
import Derived.Test.YtdmgbngdpjcliaaSixChain
namespace Go.Proofs.Ytdmgbngdpjcliaa
open Go.RowKit Go.ChangeShapes Go.WideShapes Go.ChangeAt Go.Deep
namespace Six
/-- What is made of bytes: why nothing (k), or a header and what is behind it. -/
def Ends (k : Nat) (R : Option (List (Int × List UInt8) × Nat × List UInt8)) (cls lab hop shi slo dhi dlo : Nat) (w w' : World) (e : Ending) : Prop :=
  (k ≠ 0 → e = .returned (.tuple #[hd0, .slice none 0 0, .int .i64 (k : Int)])) ∧
  (k = 0 → ∃ acc next rest, R = some (acc, next, rest) ∧ ∃ (X : Option Addr) (xc : Nat) (es : List Ext) (A2 : Option Addr) (c2 : Nat),
    e = .returned (.tuple #[hdV cls lab hop true shi slo true dhi dlo X es.length xc next, .slice A2 rest.length c2, .int .i64 0]) ∧ es.map Ext.pe = acc ∧ OwnX w' w.heap.size X xc es ∧ OwnB w' w.heap.size (.slice A2 rest.length c2) rest) ∧ Below w.heap.size w w'
/-- Why bytes quote nothing; 0: they do. -/
def quoteK (n : Nat) (xs : List UInt8) : Nat := if n < 40 then 2 else if (xs.getD 0 0).toNat / 16 ≠ 6 then 10 else if (chainF 9 (xs.getD 6 0).toNat (xs.drop 40) []).isNone then 11 else 0
def quoteR (xs : List UInt8) : Option (List (Int × List UInt8) × Nat × List UInt8) := chainF 9 (xs.getD 6 0).toNat (xs.drop 40) []
/-- Why bytes are no packet; 0: they are. -/
def parseK (n : Nat) (xs : List UInt8) : Nat := if n < 40 then 2 else if (xs.getD 0 0).toNat / 16 ≠ 6 then 10 else if n - 40 < beN xs 4 2 then 12 else if (chainF 9 (xs.getD 6 0).toNat ((xs.take (40 + beN xs 4 2)).drop 40) []).isNone then 11 else 0
def parseR (xs : List UInt8) : Option (List (Int × List UInt8) × Nat × List UInt8) := chainF 9 (xs.getD 6 0).toNat ((xs.take (40 + beN xs 4 2)).drop 40) []
theorem getD_take (xs : List UInt8) (m i : Nat) (h : i < m) : (xs.take m).getD i 0 = xs.getD i 0 := by
  simp only [List.getD, List.getElem?_take_of_lt h]
theorem beN_take (xs : List UInt8) (m p : Nat) : ∀ k, p + k ≤ m → beN (xs.take m) p k = beN xs p k
  | 0, _ => rfl
  | k + 1, h => by rw [beN, beN, beN_take xs m p k (by omega), getD_take xs m _ (by omega)]
set_option maxRecDepth 20000 in
set_option maxHeartbeats 4000000 in
theorem quote_any (A : Option Addr) (n c : Nat) (xs : List UInt8) (w : World) (hx : IsB w w.heap.size A n xs) (hnc : n ≤ c) (hcm : c ≤ maxLen) (hnm : n ≤ 1099511627776)
    (cls lab hop shi slo dhi dlo : Nat) (q1 : beN xs 0 4 / 1048576 % 256 = cls) (q2 : beN xs 0 4 % 1048576 = lab) (q3 : (xs.getD 7 0).toNat = hop) (q4 : beN xs 8 8 = shi) (q5 : beN xs 16 8 = slo) (q6 : beN xs 24 8 = dhi) (q7 : beN xs 32 8 = dlo) :
    Calls Try.prog 13 #[.slice A n c] w fun e w' => Ends (quoteK n xs) (quoteR xs) cls lab hop shi slo dhi dlo w w' e := by
  replace q1 := hide q1
  replace q2 := hide q2
  replace q3 := hide q3
  replace q4 := hide q4
  replace q5 := hide q5
  replace q6 := hide q6
  replace q7 := hide q7
  have hbox := blk_new w 29 #[.int .i64 0, .int .i64 0, .int .i64 0, .bool false, .int .u64 0, .int .u64 0, .bool false, .int .u64 0, .int .u64 0, .slice none 0 0, .int .i64 0]
  have hb1 : Below w.heap.size w (w.alloc (hdC 0 0 0 false 0 0 false 0 0 none 0 0 0)) := (Below.refl _ _).alloc (Nat.le_refl _) _
  obtain ⟨w1, hw1⟩ : ∃ w1, w.alloc (hdC 0 0 0 false 0 0 false 0 0 none 0 0 0) = w1 := ⟨_, rfl⟩
  have hlt1 : w.heap.size < w1.heap.size := by rw [← hw1]; simp
  unfold hdC at hw1 hb1
  rw [hw1] at hbox hb1
  have hcg := blk_cell hbox
  have hfg := blk_free hbox
  have hx1 := hx.on hb1
  by_cases h1 : n < 40
  · have e : quoteK n xs = 2 := by unfold quoteK; rw [if_pos h1]
    rw [e]
    replace hbox := hide hbox
    replace hb1 := hide hb1
    replace hx1 := hide hx1
    clear hx e
    go_enter Try.func13, Try.ntmps13
    go_wp2_with fail
    refine bodyPost_ret (v := .tuple #[hd0, .slice none 0 0, .int .i64 2]) (by simp [results, Try.results13, go_sem, hcg]) rfl ⟨fun _ => rfl, (fun h => by cases h), ?_⟩
    iterate 11 refine below_set ?_ (by rfl) _
    exact hb1.out
  obtain ⟨b, off, v0, rfl, hbl, hv0, hv0l, hc0⟩ := hx1.byte (i := 0) (by omega)
  rw [Nat.add_zero] at hc0
  have i0 : 0 < n := by omega
  have k0 : (0 : Int) < (n : Int) := by omega
  by_cases h2 : v0 / 16 = 6
  · have hb : (((v0 : Int) / 16) != 6) = false := by rw [bne_eq_false_iff_eq]; omega
    obtain ⟨R, hR⟩ : ∃ R, chainF 9 (xs.getD 6 0).toNat (xs.drop 40) [] = R := ⟨_, rfl⟩
    have e : quoteK n xs = if R.isNone then 11 else 0 := by unfold quoteK; rw [if_neg h1, if_neg (by omega), hR]
    have e2 : quoteR xs = R := hR
    rw [e, e2]
    have h40 : 40 ≤ n := by omega
    replace hv0 := hide hv0
    replace hR := hide hR
    replace hbox := hide hbox
    replace hb1 := hide hb1
    replace hx1 := hide hx1
    clear hx e e2 h1
    go_enter Try.func13, Try.ntmps13
    go_wp2_with fail
    refine (chain_any _ n c xs _ hx1.out hnc hcm hnm h40 cls lab hop shi slo dhi dlo q1.out q2.out q3.out q4.out q5.out q6.out q7.out R hR.out).mono ?_
    rintro e w2 ⟨hn, hs, hb2⟩
    clear hw1 hcg hfg hc0
    have hg2 := blk_below hb2 hlt1 hbox.out
    have hcg := blk_cell hg2
    have hfg := blk_free hg2
    have hB2 := hb1.out.trans (hb2.mono (Nat.le_of_lt hlt1))
    clear hb2
    replace hg2 := hide hg2
    replace hB2 := hide hB2
    rcases R with _ | ⟨acc, next, rest⟩
    · obtain rfl := hn rfl
      clear hs hn
      go_wp2_with fail
      refine bodyPost_ret (v := .tuple #[hd0, .slice none 0 0, .int .i64 11]) (by simp [results, Try.results13, go_sem, hcg]) rfl ⟨fun _ => rfl, (fun h => by simp at h), ?_⟩
      iterate 11 refine below_set ?_ (by rfl) _
      exact hB2.out
    · obtain ⟨X, xc, es, A2, c2, rfl, hes, hX, hr⟩ := hs acc next rest rfl
      obtain ⟨w8, e8, hg8, hgr8⟩ := set11 hg2.out (.int .i64 cls) (.int .i64 lab) (.int .i64 hop) (.bool true) (.int .u64 shi) (.int .u64 slo) (.bool true) (.int .u64 dhi) (.int .u64 dlo) (.slice X es.length xc) (.int .i64 (next : Int))
      have hX8 := (hX.kept hgr8 hlt1).weaken (Nat.le_of_lt hlt1)
      have hr8 := (OwnB.kept hr hgr8 (own_not hr hlt1)).weaken (Nat.le_of_lt hlt1)
      have hB8 := hB2.out.trans (below_of_grown hgr8 hB2.out.size (by intro k hk; cases hk; exact Nat.le_refl _))
      clear hn hs hX hr hgr8
      replace hX8 := hide hX8
      replace hr8 := hide hr8
      replace hB8 := hide hB8
      replace hes := hide hes
      replace hg8 := hide hg8
      go_wp2_with fail
      have hcg8 := blk_cell hg8.out
      exact bodyPost_ret (v := .tuple #[hdV cls lab hop true shi slo true dhi dlo X es.length xc next, .slice A2 rest.length c2, .int .i64 0]) (by simp [results, Try.results13, go_sem, hcg8]) rfl ⟨fun h => absurd rfl h, fun _ => ⟨acc, next, rest, rfl, X, xc, es, A2, c2, rfl, hes.out, hX8.out, hr8.out⟩, hB8.out⟩
  · have hb : (((v0 : Int) / 16) != 6) = true := by rw [bne_iff_ne]; omega
    have e : quoteK n xs = 10 := by unfold quoteK; rw [if_neg h1, if_pos (by omega)]
    rw [e]
    replace hbox := hide hbox
    replace hb1 := hide hb1
    replace hx1 := hide hx1
    replace hv0 := hide hv0
    clear hx e
    go_enter Try.func13, Try.ntmps13
    go_wp2_with fail
    refine bodyPost_ret (v := .tuple #[hd0, .slice none 0 0, .int .i64 10]) (by simp [results, Try.results13, go_sem, hcg]) rfl ⟨fun _ => rfl, (fun h => by cases h), ?_⟩
    iterate 11 refine below_set ?_ (by rfl) _
    exact hb1.out
end Six
end Go.Proofs.Ytdmgbngdpjcliaa
