/- six.Parse by contract. Conditions: slices of bytes that read as lists. -/
import Derived.Test.YtdmgbngdpjcliaaSixParse
namespace Go.Proofs.Ytdmgbngdpjcliaa
open Go.RowKit Go.ChangeShapes Go.WideShapes Go.ChangeAt Go.Deep
namespace Six
set_option maxRecDepth 20000 in
set_option maxHeartbeats 4000000 in
theorem parse_any (A : Option Addr) (n c : Nat) (xs : List UInt8) (w : World) (hx : IsB w w.heap.size A n xs) (hnc : n ≤ c) (hcm : c ≤ maxLen) (hnm : n ≤ 1099511627776)
    (cls lab hop shi slo dhi dlo : Nat) (q1 : beN xs 0 4 / 1048576 % 256 = cls) (q2 : beN xs 0 4 % 1048576 = lab) (q3 : (xs.getD 7 0).toNat = hop) (q4 : beN xs 8 8 = shi) (q5 : beN xs 16 8 = slo) (q6 : beN xs 24 8 = dhi) (q7 : beN xs 32 8 = dlo) :
    Calls Try.prog 12 #[.slice A n c] w fun e w' => Ends (parseK n xs) (parseR xs) cls lab hop shi slo dhi dlo w w' e := by
  have q1' := hide q1
  have q2' := hide q2
  have q3' := hide q3
  have q4' := hide q4
  have q5' := hide q5
  have q6' := hide q6
  have q7' := hide q7
  clear q1 q2 q3 q4 q5 q6 q7
  have hbox := blk_new w 29 #[.int .i64 0, .int .i64 0, .int .i64 0, .bool false, .int .u64 0, .int .u64 0, .bool false, .int .u64 0, .int .u64 0, .slice none 0 0, .int .i64 0]
  have hb1 : Below w.heap.size w (w.alloc (hdC 0 0 0 false 0 0 false 0 0 none 0 0 0)) := (Below.refl _ _).alloc (Nat.le_refl _) _
  obtain ⟨w1, hw1⟩ : ∃ w1, w.alloc (hdC 0 0 0 false 0 0 false 0 0 none 0 0 0) = w1 := ⟨_, rfl⟩
  have hlt1 : w.heap.size < w1.heap.size := by rw [← hw1]; simp
  unfold hdC at hw1 hb1
  rw [hw1] at hbox hb1
  have hcg := blk_cell hbox
  have hfg := blk_free hbox
  have hx1 := hx.on hb1
  by_cases h1 : n < 40
  · have e : parseK n xs = 2 := by unfold parseK; rw [if_pos h1]
    rw [e]
    replace hbox := hide hbox
    replace hb1 := hide hb1
    replace hx1 := hide hx1
    clear hx e
    go_enter Try.func12, Try.ntmps12
    go_wp2_with fail
    refine bodyPost_ret (v := .tuple #[hd0, .slice none 0 0, .int .i64 2]) (by simp [results, Try.results12, go_sem, hcg]) rfl ⟨fun _ => rfl, (fun h => by cases h), ?_⟩
    iterate 11 refine below_set ?_ (by rfl) _
    exact hb1.out
  obtain ⟨b, off, v0, rfl, hbl, hv0, hv0l, hc0⟩ := hx1.byte (i := 0) (by omega)
  rw [Nat.add_zero] at hc0
  have i0 : 0 < n := by omega
  have k0 : (0 : Int) < (n : Int) := by omega
  by_cases h2 : v0 / 16 = 6
  · have hb : (((v0 : Int) / 16) != 6) = false := by rw [bne_eq_false_iff_eq]; omega
    have h40 : 40 ≤ n := by omega
    have q1 := q1'.out
    have q2 := q2'.out
    have q3 := q3'.out
    have q4 := q4'.out
    have q5 := q5'.out
    have q6 := q6'.out
    have q7 := q7'.out
    clear q1' q2' q3' q4' q5' q6' q7'
    obtain ⟨sz, hsz⟩ : ∃ sz, beN xs 4 2 = sz := ⟨_, rfl⟩
    have hszl : sz < 65536 := by rw [← hsz]; exact beN_lt xs 4 2
    have ksub : ((n : Int) - 40) = ((n - 40 : Nat) : Int) := by omega
    have rsz : IntKind.i64.wrap (sz : Int) = (sz : Int) := wraps62 _ (by omega) (by omega)
    by_cases h3 : n - 40 < sz
    · have e : parseK n xs = 12 := by unfold parseK; rw [if_neg h1, if_neg (by omega), hsz, if_pos h3]
      rw [e]
      have t3 : (n : Int) - 40 < (sz : Int) := by omega
      replace hv0 := hide hv0
      replace hsz := hide hsz
      replace hbox := hide hbox
      replace hb1 := hide hb1
      replace hx1 := hide hx1
      clear hx e h1 ksub rsz q1 q2 q3 q4 q5 q6 q7
      go_enter Try.func12, Try.ntmps12
      go_wp2_with fail
      refine (Octet.at_lit _ _ 4 2 rfl rfl _ _ _ xs _ hx1.out (by unfold maxLen; omega) (by omega) (by omega)).mono ?_
      rintro e w' ⟨rfl, rfl⟩
      rw [hsz.out]
      go_wp2_with fail
      refine bodyPost_ret (v := .tuple #[hd0, .slice none 0 0, .int .i64 12]) (by simp [results, Try.results12, go_sem, hcg]) rfl ⟨fun _ => rfl, (fun h => by cases h), ?_⟩
      iterate 11 refine below_set ?_ (by rfl) _
      exact hb1.out
    have t3 : ¬ (n : Int) - 40 < (sz : Int) := by omega
    obtain ⟨R, hR⟩ : ∃ R, chainF 9 (xs.getD 6 0).toNat ((xs.take (40 + sz)).drop 40) [] = R := ⟨_, rfl⟩
    have e : parseK n xs = if R.isNone then 11 else 0 := by unfold parseK; rw [if_neg h1, if_neg (by omega), hsz, if_neg h3, hR]
    have e2 : parseR xs = R := by unfold parseR; rw [hsz]; exact hR
    rw [e, e2]
    have hxt := hx1.take (m := 40 + sz) (by omega)
    have g1 := beN_take xs (40 + sz) 0 4 (by omega)
    have g2 := getD_take xs (40 + sz) 7 (by omega)
    have g3 := beN_take xs (40 + sz) 8 8 (by omega)
    have g4 := beN_take xs (40 + sz) 16 8 (by omega)
    have g5 := beN_take xs (40 + sz) 24 8 (by omega)
    have g6 := beN_take xs (40 + sz) 32 8 (by omega)
    have g7 := getD_take xs (40 + sz) 6 (by omega)
    obtain ⟨ts, hts⟩ : ∃ ts, xs.take (40 + sz) = ts := ⟨_, rfl⟩
    rw [hts] at g1 g2 g3 g4 g5 g6 g7 hxt hR
    rw [← g1] at q1 q2
    rw [← g2] at q3
    rw [← g3] at q4
    rw [← g4] at q5
    rw [← g5] at q6
    rw [← g6] at q7
    rw [← g7] at hR
    clear g1 g2 g3 g4 g5 g6 g7 ksub
    obtain ⟨m, hm⟩ : ∃ m, 40 + sz = m := ⟨_, rfl⟩
    have hmn : m ≤ n := by omega
    have h40m : 40 ≤ m := by omega
    have kmI : 40 + (sz : Int) = (m : Int) := by omega
    rw [hm] at hxt
    have kmc : (m : Int) ≤ (c : Int) := by omega
    have k0m : (0 : Int) ≤ (m : Int) := by omega
    have jmc : m ≤ c := by omega
    replace q1 := hide q1
    replace q2 := hide q2
    replace q3 := hide q3
    replace q4 := hide q4
    replace q5 := hide q5
    replace q6 := hide q6
    replace q7 := hide q7
    replace hts := hide hts
    replace hm := hide hm
    replace hsz := hide hsz
    replace hxt := hide hxt
    replace hv0 := hide hv0
    replace hR := hide hR
    replace hbox := hide hbox
    replace hb1 := hide hb1
    replace hx1 := hide hx1
    clear hx e e2 h1
    go_enter Try.func12, Try.ntmps12
    go_wp2_with fail
    refine (Octet.at_lit _ _ 4 2 rfl rfl _ _ _ xs _ hx1.out (by unfold maxLen; omega) (by omega) (by omega)).mono ?_
    rintro e w' ⟨rfl, rfl⟩
    rw [hsz.out]
    go_wp2_with fail
    refine (chain_any _ m c ts _ hxt.out jmc hcm (by omega) h40m cls lab hop shi slo dhi dlo q1.out q2.out q3.out q4.out q5.out q6.out q7.out R hR.out).mono ?_
    rintro e w2 ⟨hn, hs, hb2⟩
    clear hw1 hcg hfg hc0
    have hg2 := blk_below hb2 hlt1 hbox.out
    have hcg := blk_cell hg2
    have hfg := blk_free hg2
    have hB2 := hb1.out.trans (hb2.mono (Nat.le_of_lt hlt1))
    clear hb2
    replace hg2 := hide hg2
    replace hB2 := hide hB2
    rcases R with _ | ⟨acc, next, rest⟩
    · obtain rfl := hn rfl
      clear hs hn
      go_wp2_with fail
      refine bodyPost_ret (v := .tuple #[hd0, .slice none 0 0, .int .i64 11]) (by simp [results, Try.results12, go_sem, hcg]) rfl ⟨fun _ => rfl, (fun h => by simp at h), ?_⟩
      iterate 11 refine below_set ?_ (by rfl) _
      exact hB2.out
    · obtain ⟨X, xc, es, A2, c2, rfl, hes, hX, hr⟩ := hs acc next rest rfl
      obtain ⟨w8, e8, hg8, hgr8⟩ := set11 hg2.out (.int .i64 cls) (.int .i64 lab) (.int .i64 hop) (.bool true) (.int .u64 shi) (.int .u64 slo) (.bool true) (.int .u64 dhi) (.int .u64 dlo) (.slice X es.length xc) (.int .i64 (next : Int))
      have hX8 := (hX.kept hgr8 hlt1).weaken (Nat.le_of_lt hlt1)
      have hr8 := (OwnB.kept hr hgr8 (own_not hr hlt1)).weaken (Nat.le_of_lt hlt1)
      have hB8 := hB2.out.trans (below_of_grown hgr8 hB2.out.size (by intro k hk; cases hk; exact Nat.le_refl _))
      clear hn hs hX hr hgr8
      replace hX8 := hide hX8
      replace hr8 := hide hr8
      replace hB8 := hide hB8
      replace hes := hide hes
      replace hg8 := hide hg8
      go_wp2_with fail
      have hcg8 := blk_cell hg8.out
      exact bodyPost_ret (v := .tuple #[hdV cls lab hop true shi slo true dhi dlo X es.length xc next, .slice A2 rest.length c2, .int .i64 0]) (by simp [results, Try.results12, go_sem, hcg8]) rfl ⟨fun h => absurd rfl h, fun _ => ⟨acc, next, rest, rfl, X, xc, es, A2, c2, rfl, hes.out, hX8.out, hr8.out⟩, hB8.out⟩
  · have hb : (((v0 : Int) / 16) != 6) = true := by rw [bne_iff_ne]; omega
    have e : parseK n xs = 10 := by unfold parseK; rw [if_neg h1, if_pos (by omega)]
    rw [e]
    replace hbox := hide hbox
    replace hb1 := hide hb1
    replace hx1 := hide hx1
    replace hv0 := hide hv0
    clear hx e
    go_enter Try.func12, Try.ntmps12
    go_wp2_with fail
    refine bodyPost_ret (v := .tuple #[hd0, .slice none 0 0, .int .i64 10]) (by simp [results, Try.results12, go_sem, hcg]) rfl ⟨fun _ => rfl, (fun h => by cases h), ?_⟩
    iterate 11 refine below_set ?_ (by rfl) _
    exact hb1.out
end Six
end Go.Proofs.Ytdmgbngdpjcliaa
