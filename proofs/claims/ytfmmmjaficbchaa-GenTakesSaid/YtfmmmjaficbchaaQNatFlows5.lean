/- four.raw: the header that bytes are, by contract. Conditions: slices of bytes that read as lists, a header's length that lies within. -/
import Derived.Test.YtfmmmjaficbchaaQNatFlows4
import Derived.Test.YtfmmmjaficbchaaQNatFlows1
import Derived.Test.YtfmmmjaficbchaaQNatFlows2
namespace Go.Proofs.Ytfmmmjaficbchaa
open Go.RowKit Go.ChangeShapes Go.WideShapes Go.ChangeAt Go.Deep
theorem below_set {n : Nat} {a b : World} (h : Below n a b) {p : Addr} (hp : p.block = n) (u : Value) : Below n a (b.setCell p u) := h.setCell (Nat.le_of_eq hp.symm) u
namespace Four
/-- The header that bytes are. -/
abbrev rawV (xs : List UInt8) (A : Option Addr) (n c : Nat) : Value :=
  hdV ((xs.getD 1 0).toNat : Nat) (beN xs 4 2 : Nat) (decide (beN xs 6 2 / 16384 % 2 = 1)) (decide (beN xs 6 2 / 8192 % 2 = 1)) (beN xs 6 2 % 8192 : Nat) ((xs.getD 8 0).toNat : Nat) ((xs.getD 9 0).toNat : Nat)
    false 0 (beN xs 12 4 : Nat) false 0 (beN xs 16 4 : Nat) A n c
set_option maxRecDepth 4000 in
set_option maxHeartbeats 4000000 in
theorem raw_any (A : Option Addr) (n c : Nat) (xs : List UInt8) (size : Nat) (si : Int) (hsi : si = (size : Int)) (w : World) (hx : IsB w w.heap.size A n xs) (h20 : 20 ≤ size) (hsn : size ≤ n) (hnc : n ≤ c) (hnm : n ≤ 1099511627776) :
    Calls Try.prog 82 #[.slice A n c, .int .i64 si] w fun e w' => ∃ A' c', e = .returned (rawV xs A' (size - 20) c') ∧ OwnB w' w.heap.size (.slice A' (size - 20) c') ((xs.take size).drop 20) ∧ Below w.heap.size w w' := by
  subst hsi
  obtain ⟨b, off, v1, rfl, hbl, hv1, hv1l, hc1⟩ := hx.byte (i := 1) (by omega)
  obtain ⟨v8, hv8, hv8l, hc8⟩ := hx.byteAt (i := 8) (by omega)
  obtain ⟨v9, hv9, hv9l, hc9⟩ := hx.byteAt (i := 9) (by omega)
  obtain ⟨fl, hfl⟩ : ∃ k, beN xs 6 2 = k := ⟨_, rfl⟩
  obtain ⟨idn, hid⟩ : ∃ k, beN xs 4 2 = k := ⟨_, rfl⟩
  obtain ⟨sn, hsn'⟩ : ∃ k, beN xs 12 4 = k := ⟨_, rfl⟩
  obtain ⟨dn, hdn⟩ : ∃ k, beN xs 16 4 = k := ⟨_, rfl⟩
  have hflt : fl < 65536 := by rw [← hfl]; exact beN_lt xs 6 2
  have hidt : idn < 65536 := by rw [← hid]; exact beN_lt xs 4 2
  have hsnt : sn < 4294967296 := by rw [← hsn']; exact beN_lt xs 12 4
  have hdnt : dn < 4294967296 := by rw [← hdn]; exact beN_lt xs 16 4
  obtain ⟨w2, hw2⟩ : ∃ w2, w.alloc (hdC 0 0 false false 0 0 0 false 0 0 false 0 0 none 0 0) = w2 := ⟨_, rfl⟩
  have hb2 : Below w.heap.size w w2 := hw2 ▸ (Below.refl _ _).alloc (Nat.le_refl _) _
  have hg2 : w2.heap[w.heap.size]? = some (hdC 0 0 false false 0 0 0 false 0 0 false 0 0 none 0 0 |> fun | .cells a t => .cells a t (0, 0) | o => o) := hw2 ▸ blk_new _ _ _
  have hlt2 : w.heap.size < w2.heap.size := by rw [← hw2]; simp
  have hx2 : IsB w2 w2.heap.size (some ⟨b, off, none⟩) n xs := hx.on hb2
  have hd1 : ∀ l : Later w2, l.w.cell? ⟨b, off + 1, none⟩ = some (.int .u8 (v1 : Nat)) := fun l => l.cell (by rw [← hw2]; exact (((Below.refl _ _).alloc (Nat.le_refl _) _).cell hbl).trans hc1)
  have hd8 : ∀ l : Later w2, l.w.cell? ⟨b, off + 8, none⟩ = some (.int .u8 (v8 : Nat)) := fun l => l.cell (by rw [← hw2]; exact (((Below.refl _ _).alloc (Nat.le_refl _) _).cell hbl).trans hc8)
  have hd9 : ∀ l : Later w2, l.w.cell? ⟨b, off + 9, none⟩ = some (.int .u8 (v9 : Nat)) := fun l => l.cell (by rw [← hw2]; exact (((Below.refl _ _).alloc (Nat.le_refl _) _).cell hbl).trans hc9)
  clear hc1 hc8 hc9
  obtain ⟨A20, hA20⟩ : ∃ A20, (if c = 20 then some (⟨b, off, none⟩ : Addr) else some ⟨b, off + 20, none⟩) = A20 := ⟨_, rfl⟩
  have hx20 : IsB w2 w2.heap.size A20 (size - 20) ((xs.take size).drop 20) := by
    have h8 := hx2.cut (k := 20) (m := size) (cap := c) h20 hsn hnc
    rw [← hA20]
    exact h8
  unfold hdC at hw2 hg2
  replace hx := hide hx
  replace hx2 := hide hx2
  replace hx20 := hide hx20
  replace hb2 := hide hb2
  replace hg2 := hide hg2
  replace hv1 := hide hv1
  replace hv8 := hide hv8
  replace hv9 := hide hv9
  replace hfl := hide hfl
  replace hid := hide hid
  replace hsn' := hide hsn'
  replace hdn := hide hdn
  go_enter Try.func82, Try.ntmps82
  go_wp2_with fail
  refine (Octet.at_lit _ _ 6 2 rfl rfl _ _ _ xs _ hx2.out (by unfold maxLen; omega) (by omega) (by omega)).mono ?_
  rintro e w' ⟨rfl, rfl⟩
  rw [hfl.out]
  clear hw2
  have i1 : 1 < n := by omega
  have i8 : 8 < n := by omega
  have i9 : 9 < n := by omega
  have k1 : (1 : Int) < (n : Int) := by omega
  have k8 : (8 : Int) < (n : Int) := by omega
  have k9 : (9 : Int) < (n : Int) := by omega
  have k20 : (20 : Int) ≤ (size : Int) := by omega
  have ksn : (size : Int) ≤ (n : Int) := by omega
  have jsc : size ≤ c := by omega
  go_wp2_with fail
  refine wp_region_L (by kernel_rfl) ?_
  refine wpE_seg 0 36 (fuel := 3) (by kernel_rfl) (fun d _ _ _ _ h => by cases d <;> exact h) (by kernel_rfl) (by kernel_rfl) ?_
  simp only [List.drop_zero, List.take_succ_cons, List.take_zero]
  iterate 5 (refine wpQE_step (fun K hK => ?_); go_simp; (try go_bits); refine hK _ ?_; clear hK K)
  (refine wpQE_step (fun K hK => ?_); go_simp; apply Exists.intro; refine ⟨fun l => ?_, hK _ ?_⟩; (go_at_call 36; refine (Octet.at_lit _ _ 4 2 rfl rfl _ _ _ xs _ (IsB.later hx2.out l) (by unfold maxLen; omega) (by omega) (by omega)).mono ?_; rw [hid.out]; rintro e w' ⟨rfl, rfl⟩; exact ⟨rfl, lt_refl _⟩); clear hK K)
  iterate 20 (refine wpQE_step (fun K hK => ?_); go_simp; (try go_bits); refine hK _ ?_; clear hK K)
  (refine wpQE_step (fun K hK => ?_); go_simp; apply Exists.intro; refine ⟨fun l => ?_, hK _ ?_⟩; (go_at_call 36; refine (Octet.at_lit _ _ 12 4 rfl rfl _ _ _ xs _ (IsB.later hx2.out l) (by unfold maxLen; omega) (by omega) (by omega)).mono ?_; rw [hsn'.out]; rintro e w' ⟨rfl, rfl⟩; exact ⟨rfl, lt_refl _⟩); clear hK K)
  iterate 1 (refine wpQE_step (fun K hK => ?_); go_simp; (try go_bits); refine hK _ ?_; clear hK K)
  (refine wpQE_step (fun K hK => ?_); go_simp; apply Exists.intro; refine ⟨fun l => ?_, hK _ ?_⟩; (go_at_call 39; refine (v4_any _ _ (by omega) (by omega)).mono ?_; rintro e w' ⟨rfl, hb⟩; exact ⟨rfl, hb⟩); clear hK K)
  iterate 1 (refine wpQE_step (fun K hK => ?_); go_simp; (try go_bits); refine hK _ ?_; clear hK K)
  (refine wpQE_step (fun K hK => ?_); go_simp; apply Exists.intro; refine ⟨fun l => ?_, hK _ ?_⟩; (go_at_call 36; refine (Octet.at_lit _ _ 16 4 rfl rfl _ _ _ xs _ (IsB.later hx2.out l) (by unfold maxLen; omega) (by omega) (by omega)).mono ?_; rw [hdn.out]; rintro e w' ⟨rfl, rfl⟩; exact ⟨rfl, lt_refl _⟩); clear hK K)
  iterate 1 (refine wpQE_step (fun K hK => ?_); go_simp; (try go_bits); refine hK _ ?_; clear hK K)
  (refine wpQE_step (fun K hK => ?_); go_simp; apply Exists.intro; refine ⟨fun l => ?_, hK _ ?_⟩; (go_at_call 39; refine (v4_any _ _ (by omega) (by omega)).mono ?_; rintro e w' ⟨rfl, hb⟩; exact ⟨rfl, hb⟩); clear hK K)
  iterate 3 (refine wpQE_step (fun K hK => ?_); go_simp; (try go_bits); refine hK _ ?_; clear hK K)
  refine wpQE_nil ?_
  refine wpE_step 36 (fuel := 2) rfl (by kernel_rfl) (fun l K hK => ?_)
  go_simp
  go_at_call 83
  refine (clone_any _ _ _ ((xs.take size).drop 20) _ ?_ (by omega)).mono ?_
  · exact IsB.later hx20.out l
  rintro e w3 ⟨v, rfl, hown, hb3⟩
  refine hK _ _ hb3 ?_
  clear hK K
  have hlen : ((xs.take size).drop 20).length = size - 20 := by rw [List.length_drop, List.length_take, hx.out.1]; omega
  obtain ⟨A', c', rfl, hc', hm', hi'⟩ := hown.form
  rw [hlen] at hc' hown ⊢
  replace hlen := hide hlen
  refine wpE_seg 37 1 (fuel := 1) (by kernel_rfl) (fun d _ _ _ _ h => by cases d <;> exact h) (by kernel_rfl) (by kernel_rfl) ?_
  simp only [List.drop_succ_cons, List.drop_zero, List.take_succ_cons, List.take_zero]
  iterate 1 (refine wpQE_step (fun K hK => ?_); go_simp; refine hK _ ?_; clear hK K)
  refine wpQE_nil ?_
  refine wpE_end (by kernel_rfl) (fun l2 => ?_)
  have hg3 : l2.w.heap[w.heap.size]? = _ := blk_below l2.hb (Nat.lt_of_lt_of_le hlt2 (Nat.le_trans l.hb.size hb3.size)) (blk_below hb3 (Nat.lt_of_lt_of_le hlt2 l.hb.size) (blk_below l.hb hlt2 hg2.out))
  have hcg := blk_cell hg3
  have hfg := blk_free hg3
  have hb4 : Below w.heap.size w l2.w := ((hb2.out.trans (l.hb.mono (by omega))).trans (hb3.mono (Nat.le_trans (Nat.le_of_lt hlt2) l.hb.size))).trans (l2.hb.mono (Nat.le_trans (Nat.le_of_lt hlt2) (Nat.le_trans l.hb.size hb3.size)))
  replace hg3 := hide hg3
  replace hb4 := hide hb4
  refine wpT_step 38 rfl (by kernel_rfl) (fun K hK => ?_)
  go_simp
  refine hK _ _ ?_
  clear hK K
  refine wpT_done (by kernel_rfl) ?_ 0
  have e1 := i64_and1 ((fl : Int) / 16384) (by omega) (by omega)
  have e2 := i64_and1 ((fl : Int) / 8192) (by omega) (by omega)
  have e3 := i64_and8191 (fl : Int) (by omega) (by omega)
  have d1 : (((fl : Int) / 16384 % 2) == 1) = decide (fl / 16384 % 2 = 1) := beq_nat (fl / 16384 % 2) 1
  have d2 : (((fl : Int) / 8192 % 2) == 1) = decide (fl / 8192 % 2 = 1) := beq_nat (fl / 8192 % 2) 1
  rw [e1, e2, e3, d1, d2]
  go_wp2
  have hown4 := hown.below l2.hb
  have hne : (Value.slice A' (size - 20) c').ownBlock = none ∨ (Value.slice A' (size - 20) c').ownBlock ≠ some w.heap.size := by
    rcases hob : (Value.slice A' (size - 20) c').ownBlock with _ | k
    · exact .inl rfl
    · right
      intro e
      have h1 := (hown.lt k hob).1
      have h2 := l.hb.size
      cases e
      omega
  refine bodyPost_ret (v := hdV (v1 : Nat) (idn : Nat) (decide (fl / 16384 % 2 = 1)) (decide (fl / 8192 % 2 = 1)) ((fl : Int) % 8192) (v8 : Nat) (v9 : Nat) false 0 (sn : Nat) false 0 (dn : Nat) A' (size - 20) c') (by simp [results, Try.results82, go_sem, hcg]) rfl ⟨A', c', ?_, ?_, ?_⟩
  · unfold rawV
    rw [hv1.out, hv8.out, hv9.out, hfl.out, hid.out, hsn'.out, hdn.out]
    rfl
  · refine OwnB.weaken (hown4.kept (row := some w.heap.size) ?_ hne) (Nat.le_trans (Nat.le_of_lt hlt2) l.hb.size)
    iterate 14 refine grown_set ?_ rfl _
    exact grown_refl _ _
  · iterate 14 refine below_set ?_ (by rfl) _
    exact hb4.out
end Four
end Go.Proofs.Ytfmmmjaficbchaa
/- four.Parse and what says why bytes are no packet, by contract, a theorem a branch. Conditions: slices of bytes that read as lists. -/
namespace Go.Proofs.Ytfmmmjaficbchaa
open Go.RowKit Go.ChangeShapes Go.WideShapes Go.ChangeAt Go.Deep
namespace Four
/-- No header. -/
abbrev hd0 : Value := hdV 0 0 false false 0 0 0 false 0 0 false 0 0 none 0 0
/-- No header's cells. -/
abbrev hd0C : Obj := hdC 0 0 false false 0 0 0 false 0 0 false 0 0 none 0 0
set_option maxRecDepth 4000 in
set_option maxHeartbeats 1000000 in
theorem parse_short (A : Option Addr) (n c : Nat) (xs : List UInt8) (w : World) (_hx : IsB w w.heap.size A n xs) (_hnc : n ≤ c) (hnm : n ≤ 1099511627776) (h : n < 20) :
    Calls Try.prog 61 #[.slice A n c] w fun e w' => e = .returned (.tuple #[hd0, .slice none 0 0, .int .i64 2]) ∧ Below w.heap.size w w' := by
  go_enter Try.func61, Try.ntmps61
  go_wp2
  exact bodyPost_ret (v := .tuple #[hd0, .slice none 0 0, .int .i64 2]) (by simp [results, Try.results61, go_sem]) rfl ⟨rfl, (Below.refl _ _).alloc (Nat.le_refl _) _⟩
set_option maxRecDepth 4000 in
set_option maxHeartbeats 1000000 in
theorem parse_version (A : Option Addr) (n c : Nat) (xs : List UInt8) (w : World) (hx : IsB w w.heap.size A n xs) (_hnc : n ≤ c) (hnm : n ≤ 1099511627776) (h : 20 ≤ n) (hv : (xs.getD 0 0).toNat / 16 ≠ 4) :
    Calls Try.prog 61 #[.slice A n c] w fun e w' => e = .returned (.tuple #[hd0, .slice none 0 0, .int .i64 10]) ∧ Below w.heap.size w w' := by
  obtain ⟨b, off, v0, rfl, hbl, hv0, hv0l, hc0⟩ := hx.byte (i := 0) (by omega)
  rw [Nat.add_zero] at hc0
  rw [hv0] at hv
  replace hc0 := ((Below.refl _ _).alloc (Nat.le_refl _) hd0C).cell hbl |>.trans hc0
  unfold hd0C hdC at hc0
  have i0 : 0 < n := by omega
  have hb : (((v0 : Int) / 16) != 4) = true := by rw [bne_iff_ne]; omega
  replace hv0 := hide hv0
  replace hx := hide hx
  go_enter Try.func61, Try.ntmps61
  go_wp2
  exact bodyPost_ret (v := .tuple #[hd0, .slice none 0 0, .int .i64 10]) (by simp [results, Try.results61, go_sem]) rfl ⟨rfl, (Below.refl _ _).alloc (Nat.le_refl _) _⟩
set_option maxRecDepth 4000 in
set_option maxHeartbeats 2000000 in
theorem parse_header1 (A : Option Addr) (n c : Nat) (xs : List UInt8) (w : World) (hx : IsB w w.heap.size A n xs) (_hnc : n ≤ c) (hnm : n ≤ 1099511627776) (h : 20 ≤ n) (hv : (xs.getD 0 0).toNat / 16 = 4) (s : Nat) (hs : (xs.getD 0 0).toNat % 16 * 4 = s) (h5 : s < 20) :
    Calls Try.prog 61 #[.slice A n c] w fun e w' => e = .returned (.tuple #[hd0, .slice none 0 0, .int .i64 11]) ∧ Below w.heap.size w w' := by
  obtain ⟨b, off, v0, rfl, hbl, hv0, hv0l, hc0⟩ := hx.byte (i := 0) (by omega)
  rw [Nat.add_zero] at hc0
  rw [hv0] at hv hs
  obtain ⟨al, hal⟩ : ∃ k, beN xs 2 2 = k := ⟨_, rfl⟩
  obtain ⟨fl, hfl⟩ : ∃ k, beN xs 6 2 = k := ⟨_, rfl⟩
  have halt : al < 65536 := by rw [← hal]; exact beN_lt xs 2 2
  have hflt : fl < 65536 := by rw [← hfl]; exact beN_lt xs 6 2
  obtain ⟨w2, hw2⟩ : ∃ w2, w.alloc hd0C = w2 := ⟨_, rfl⟩
  have hb2 : Below w.heap.size w w2 := hw2 ▸ (Below.refl _ _).alloc (Nat.le_refl _) _
  have hg2 : w2.heap[w.heap.size]? = some (.cells #[.int .i64 0, .int .i64 0, .bool false, .bool false, .int .i64 0, .int .i64 0, .int .i64 0, .bool false, .int .u64 0, .int .u64 0, .bool false, .int .u64 0, .int .u64 0, .slice none 0 0] 106 (0, 0)) := hw2 ▸ blk_new _ _ _
  have hlt2 : w.heap.size < w2.heap.size := by rw [← hw2]; simp
  have hx2 : IsB w2 w2.heap.size (some ⟨b, off, none⟩) n xs := hx.on hb2
  have hdl : ∀ l : Later w2, l.w.cell? ⟨b, off, none⟩ = some (.int .u8 (v0 : Nat)) := fun l => l.cell (by rw [← hw2]; exact (((Below.refl _ _).alloc (Nat.le_refl _) _).cell hbl).trans hc0)
  have hd2 : w2.cell? ⟨b, off, none⟩ = some (.int .u8 (v0 : Nat)) := by rw [← hw2]; exact (((Below.refl _ _).alloc (Nat.le_refl _) _).cell hbl).trans hc0
  clear hc0
  unfold hd0C hdC at hw2
  have i0 : 0 < n := by omega
  have k0 : (0 : Int) < (n : Int) := by omega
  have hb : (((v0 : Int) / 16) != 4) = false := by rw [bne_eq_false_iff_eq]; omega
  have e0 : bits .and .u8 (v0 : Int) 15 = ((v0 % 16 : Nat) : Int) := by rw [u8_and15 (v0 : Int) (by omega) (by omega)]; omega
  obtain ⟨r, hr⟩ : ∃ r, v0 % 16 = r := ⟨_, rfl⟩
  rw [hr] at e0
  have e1 : (r : Int) * 4 = (s : Int) := by omega
  have hs60 : s ≤ 60 := by omega
  replace hr := hide hr
  replace hs := hide hs
  replace hv := hide hv
  replace hv0 := hide hv0
  replace hx := hide hx
  replace hx2 := hide hx2
  replace hb2 := hide hb2
  replace hg2 := hide hg2
  replace hal := hide hal
  replace hfl := hide hfl
  have t1 : (s : Int) < 20 := by omega
  go_enter Try.func61, Try.ntmps61
  go_wp2_with fail
  clear hw2
  refine wp_region_later (by kernel_rfl) (by kernel_rfl) ?_
  repeat (refine wpQuiet_step (fun K hK => ?_); go_simp; first | (refine hK _ ?_; clear hK K) | (apply Exists.intro; refine ⟨fun l => ?_, hK _ ?_⟩; (go_at_call 36; refine (Octet.at_lit _ _ 2 2 rfl rfl _ _ _ xs _ (IsB.later hx2.out l) (by unfold maxLen; omega) (by omega) (by omega)).mono ?_; rw [hal.out]; rintro e w' ⟨rfl, rfl⟩; exact ⟨rfl, Later.same _ rfl⟩); clear hK K))
  refine wpQuiet_nil ?_
  intro l
  have q1 : IntKind.i64.wrap (r : Int) = (r : Int) := wraps62 _ (by omega) (by omega)
  have q2 : IntKind.i64.wrap ((r : Int) * 4) = (s : Int) := by rw [e1]; exact wraps62 _ (by omega) (by omega)
  have q3 : IntKind.i64.wrap (al : Int) = (al : Int) := wraps62 _ (by omega) (by omega)
  rw [q1, q2, q3]
  clear e0 e1 hdl hd2 q1 q2 q3
  have hx3 := hx2.out.later l
  replace hx3 := hide hx3
  go_wp2_with fail
  refine (Octet.at_lit _ _ 6 2 rfl rfl _ _ _ xs _ hx3.out (by unfold maxLen; omega) (by omega) (by omega)).mono ?_
  rintro e w' ⟨rfl, rfl⟩
  rw [hfl.out]
  have hg4 := blk_below l.hb hlt2 hg2.out
  have hcg := blk_cell hg4
  have hfg := blk_free hg4
  replace hg4 := hide hg4
  have hbl4 := hb2.out.trans (l.hb.mono (Nat.le_of_lt hlt2))
  replace hbl4 := hide hbl4
  go_wp2_with fail
  refine bodyPost_ret (v := .tuple #[hd0, .slice none 0 0, .int .i64 11]) (by simp [results, Try.results61, go_sem, hcg]) rfl ⟨rfl, ?_⟩
  iterate 14 refine below_set ?_ (by rfl) _
  exact hbl4.out
set_option maxRecDepth 4000 in
set_option maxHeartbeats 2000000 in
theorem parse_header2 (A : Option Addr) (n c : Nat) (xs : List UInt8) (w : World) (hx : IsB w w.heap.size A n xs) (_hnc : n ≤ c) (hnm : n ≤ 1099511627776) (h : 20 ≤ n) (hv : (xs.getD 0 0).toNat / 16 = 4) (s : Nat) (hs : (xs.getD 0 0).toNat % 16 * 4 = s) (h5 : 20 ≤ s) (h6 : n < s) :
    Calls Try.prog 61 #[.slice A n c] w fun e w' => e = .returned (.tuple #[hd0, .slice none 0 0, .int .i64 11]) ∧ Below w.heap.size w w' := by
  obtain ⟨b, off, v0, rfl, hbl, hv0, hv0l, hc0⟩ := hx.byte (i := 0) (by omega)
  rw [Nat.add_zero] at hc0
  rw [hv0] at hv hs
  obtain ⟨al, hal⟩ : ∃ k, beN xs 2 2 = k := ⟨_, rfl⟩
  obtain ⟨fl, hfl⟩ : ∃ k, beN xs 6 2 = k := ⟨_, rfl⟩
  have halt : al < 65536 := by rw [← hal]; exact beN_lt xs 2 2
  have hflt : fl < 65536 := by rw [← hfl]; exact beN_lt xs 6 2
  obtain ⟨w2, hw2⟩ : ∃ w2, w.alloc hd0C = w2 := ⟨_, rfl⟩
  have hb2 : Below w.heap.size w w2 := hw2 ▸ (Below.refl _ _).alloc (Nat.le_refl _) _
  have hg2 : w2.heap[w.heap.size]? = some (.cells #[.int .i64 0, .int .i64 0, .bool false, .bool false, .int .i64 0, .int .i64 0, .int .i64 0, .bool false, .int .u64 0, .int .u64 0, .bool false, .int .u64 0, .int .u64 0, .slice none 0 0] 106 (0, 0)) := hw2 ▸ blk_new _ _ _
  have hlt2 : w.heap.size < w2.heap.size := by rw [← hw2]; simp
  have hx2 : IsB w2 w2.heap.size (some ⟨b, off, none⟩) n xs := hx.on hb2
  have hdl : ∀ l : Later w2, l.w.cell? ⟨b, off, none⟩ = some (.int .u8 (v0 : Nat)) := fun l => l.cell (by rw [← hw2]; exact (((Below.refl _ _).alloc (Nat.le_refl _) _).cell hbl).trans hc0)
  have hd2 : w2.cell? ⟨b, off, none⟩ = some (.int .u8 (v0 : Nat)) := by rw [← hw2]; exact (((Below.refl _ _).alloc (Nat.le_refl _) _).cell hbl).trans hc0
  clear hc0
  unfold hd0C hdC at hw2
  have i0 : 0 < n := by omega
  have k0 : (0 : Int) < (n : Int) := by omega
  have hb : (((v0 : Int) / 16) != 4) = false := by rw [bne_eq_false_iff_eq]; omega
  have e0 : bits .and .u8 (v0 : Int) 15 = ((v0 % 16 : Nat) : Int) := by rw [u8_and15 (v0 : Int) (by omega) (by omega)]; omega
  obtain ⟨r, hr⟩ : ∃ r, v0 % 16 = r := ⟨_, rfl⟩
  rw [hr] at e0
  have e1 : (r : Int) * 4 = (s : Int) := by omega
  have hs60 : s ≤ 60 := by omega
  replace hr := hide hr
  replace hs := hide hs
  replace hv := hide hv
  replace hv0 := hide hv0
  replace hx := hide hx
  replace hx2 := hide hx2
  replace hb2 := hide hb2
  replace hg2 := hide hg2
  replace hal := hide hal
  replace hfl := hide hfl
  have t1 : ¬ (s : Int) < 20 := by omega
  have t2 : (n : Int) < (s : Int) := by omega
  go_enter Try.func61, Try.ntmps61
  go_wp2_with fail
  clear hw2
  refine wp_region_later (by kernel_rfl) (by kernel_rfl) ?_
  repeat (refine wpQuiet_step (fun K hK => ?_); go_simp; first | (refine hK _ ?_; clear hK K) | (apply Exists.intro; refine ⟨fun l => ?_, hK _ ?_⟩; (go_at_call 36; refine (Octet.at_lit _ _ 2 2 rfl rfl _ _ _ xs _ (IsB.later hx2.out l) (by unfold maxLen; omega) (by omega) (by omega)).mono ?_; rw [hal.out]; rintro e w' ⟨rfl, rfl⟩; exact ⟨rfl, Later.same _ rfl⟩); clear hK K))
  refine wpQuiet_nil ?_
  intro l
  have q1 : IntKind.i64.wrap (r : Int) = (r : Int) := wraps62 _ (by omega) (by omega)
  have q2 : IntKind.i64.wrap ((r : Int) * 4) = (s : Int) := by rw [e1]; exact wraps62 _ (by omega) (by omega)
  have q3 : IntKind.i64.wrap (al : Int) = (al : Int) := wraps62 _ (by omega) (by omega)
  rw [q1, q2, q3]
  clear e0 e1 hdl hd2 q1 q2 q3
  have hx3 := hx2.out.later l
  replace hx3 := hide hx3
  go_wp2_with fail
  refine (Octet.at_lit _ _ 6 2 rfl rfl _ _ _ xs _ hx3.out (by unfold maxLen; omega) (by omega) (by omega)).mono ?_
  rintro e w' ⟨rfl, rfl⟩
  rw [hfl.out]
  have hg4 := blk_below l.hb hlt2 hg2.out
  have hcg := blk_cell hg4
  have hfg := blk_free hg4
  replace hg4 := hide hg4
  have hbl4 := hb2.out.trans (l.hb.mono (Nat.le_of_lt hlt2))
  replace hbl4 := hide hbl4
  go_wp2_with fail
  refine bodyPost_ret (v := .tuple #[hd0, .slice none 0 0, .int .i64 11]) (by simp [results, Try.results61, go_sem, hcg]) rfl ⟨rfl, ?_⟩
  iterate 14 refine below_set ?_ (by rfl) _
  exact hbl4.out
set_option maxRecDepth 4000 in
set_option maxHeartbeats 2000000 in
theorem parse_header3 (A : Option Addr) (n c : Nat) (xs : List UInt8) (w : World) (hx : IsB w w.heap.size A n xs) (_hnc : n ≤ c) (hnm : n ≤ 1099511627776) (h : 20 ≤ n) (hv : (xs.getD 0 0).toNat / 16 = 4) (s : Nat) (hs : (xs.getD 0 0).toNat % 16 * 4 = s) (h5 : 20 ≤ s) (h6 : s ≤ n) (h7 : beN xs 6 2 / 32768 ≠ 0) :
    Calls Try.prog 61 #[.slice A n c] w fun e w' => e = .returned (.tuple #[hd0, .slice none 0 0, .int .i64 11]) ∧ Below w.heap.size w w' := by
  obtain ⟨b, off, v0, rfl, hbl, hv0, hv0l, hc0⟩ := hx.byte (i := 0) (by omega)
  rw [Nat.add_zero] at hc0
  rw [hv0] at hv hs
  obtain ⟨al, hal⟩ : ∃ k, beN xs 2 2 = k := ⟨_, rfl⟩
  obtain ⟨fl, hfl⟩ : ∃ k, beN xs 6 2 = k := ⟨_, rfl⟩
  have halt : al < 65536 := by rw [← hal]; exact beN_lt xs 2 2
  have hflt : fl < 65536 := by rw [← hfl]; exact beN_lt xs 6 2
  obtain ⟨w2, hw2⟩ : ∃ w2, w.alloc hd0C = w2 := ⟨_, rfl⟩
  have hb2 : Below w.heap.size w w2 := hw2 ▸ (Below.refl _ _).alloc (Nat.le_refl _) _
  have hg2 : w2.heap[w.heap.size]? = some (.cells #[.int .i64 0, .int .i64 0, .bool false, .bool false, .int .i64 0, .int .i64 0, .int .i64 0, .bool false, .int .u64 0, .int .u64 0, .bool false, .int .u64 0, .int .u64 0, .slice none 0 0] 106 (0, 0)) := hw2 ▸ blk_new _ _ _
  have hlt2 : w.heap.size < w2.heap.size := by rw [← hw2]; simp
  have hx2 : IsB w2 w2.heap.size (some ⟨b, off, none⟩) n xs := hx.on hb2
  have hdl : ∀ l : Later w2, l.w.cell? ⟨b, off, none⟩ = some (.int .u8 (v0 : Nat)) := fun l => l.cell (by rw [← hw2]; exact (((Below.refl _ _).alloc (Nat.le_refl _) _).cell hbl).trans hc0)
  have hd2 : w2.cell? ⟨b, off, none⟩ = some (.int .u8 (v0 : Nat)) := by rw [← hw2]; exact (((Below.refl _ _).alloc (Nat.le_refl _) _).cell hbl).trans hc0
  clear hc0
  unfold hd0C hdC at hw2
  have i0 : 0 < n := by omega
  have k0 : (0 : Int) < (n : Int) := by omega
  have hb : (((v0 : Int) / 16) != 4) = false := by rw [bne_eq_false_iff_eq]; omega
  have e0 : bits .and .u8 (v0 : Int) 15 = ((v0 % 16 : Nat) : Int) := by rw [u8_and15 (v0 : Int) (by omega) (by omega)]; omega
  obtain ⟨r, hr⟩ : ∃ r, v0 % 16 = r := ⟨_, rfl⟩
  rw [hr] at e0
  have e1 : (r : Int) * 4 = (s : Int) := by omega
  have hs60 : s ≤ 60 := by omega
  replace hr := hide hr
  replace hs := hide hs
  replace hv := hide hv
  replace hv0 := hide hv0
  replace hx := hide hx
  replace hx2 := hide hx2
  replace hb2 := hide hb2
  replace hg2 := hide hg2
  replace hal := hide hal
  replace hfl := hide hfl
  have t1 : ¬ (s : Int) < 20 := by omega
  have t2 : ¬ (n : Int) < (s : Int) := by omega
  rw [hfl.out] at h7
  have t3 : (((fl : Int) / 32768) != 0) = true := by rw [bne_iff_ne]; omega
  go_enter Try.func61, Try.ntmps61
  go_wp2_with fail
  clear hw2
  refine wp_region_later (by kernel_rfl) (by kernel_rfl) ?_
  repeat (refine wpQuiet_step (fun K hK => ?_); go_simp; first | (refine hK _ ?_; clear hK K) | (apply Exists.intro; refine ⟨fun l => ?_, hK _ ?_⟩; (go_at_call 36; refine (Octet.at_lit _ _ 2 2 rfl rfl _ _ _ xs _ (IsB.later hx2.out l) (by unfold maxLen; omega) (by omega) (by omega)).mono ?_; rw [hal.out]; rintro e w' ⟨rfl, rfl⟩; exact ⟨rfl, Later.same _ rfl⟩); clear hK K))
  refine wpQuiet_nil ?_
  intro l
  have q1 : IntKind.i64.wrap (r : Int) = (r : Int) := wraps62 _ (by omega) (by omega)
  have q2 : IntKind.i64.wrap ((r : Int) * 4) = (s : Int) := by rw [e1]; exact wraps62 _ (by omega) (by omega)
  have q3 : IntKind.i64.wrap (al : Int) = (al : Int) := wraps62 _ (by omega) (by omega)
  rw [q1, q2, q3]
  clear e0 e1 hdl hd2 q1 q2 q3
  have hx3 := hx2.out.later l
  replace hx3 := hide hx3
  go_wp2_with fail
  refine (Octet.at_lit _ _ 6 2 rfl rfl _ _ _ xs _ hx3.out (by unfold maxLen; omega) (by omega) (by omega)).mono ?_
  rintro e w' ⟨rfl, rfl⟩
  rw [hfl.out]
  have hg4 := blk_below l.hb hlt2 hg2.out
  have hcg := blk_cell hg4
  have hfg := blk_free hg4
  replace hg4 := hide hg4
  have hbl4 := hb2.out.trans (l.hb.mono (Nat.le_of_lt hlt2))
  replace hbl4 := hide hbl4
  go_wp2_with fail
  refine bodyPost_ret (v := .tuple #[hd0, .slice none 0 0, .int .i64 11]) (by simp [results, Try.results61, go_sem, hcg]) rfl ⟨rfl, ?_⟩
  iterate 14 refine below_set ?_ (by rfl) _
  exact hbl4.out
set_option maxRecDepth 4000 in
set_option maxHeartbeats 2000000 in
theorem parse_length1 (A : Option Addr) (n c : Nat) (xs : List UInt8) (w : World) (hx : IsB w w.heap.size A n xs) (_hnc : n ≤ c) (hnm : n ≤ 1099511627776) (h : 20 ≤ n) (hv : (xs.getD 0 0).toNat / 16 = 4) (s : Nat) (hs : (xs.getD 0 0).toNat % 16 * 4 = s) (h5 : 20 ≤ s) (h6 : s ≤ n) (h7 : beN xs 6 2 / 32768 = 0) (h8 : beN xs 2 2 < s) :
    Calls Try.prog 61 #[.slice A n c] w fun e w' => e = .returned (.tuple #[hd0, .slice none 0 0, .int .i64 12]) ∧ Below w.heap.size w w' := by
  obtain ⟨b, off, v0, rfl, hbl, hv0, hv0l, hc0⟩ := hx.byte (i := 0) (by omega)
  rw [Nat.add_zero] at hc0
  rw [hv0] at hv hs
  obtain ⟨al, hal⟩ : ∃ k, beN xs 2 2 = k := ⟨_, rfl⟩
  obtain ⟨fl, hfl⟩ : ∃ k, beN xs 6 2 = k := ⟨_, rfl⟩
  have halt : al < 65536 := by rw [← hal]; exact beN_lt xs 2 2
  have hflt : fl < 65536 := by rw [← hfl]; exact beN_lt xs 6 2
  obtain ⟨w2, hw2⟩ : ∃ w2, w.alloc hd0C = w2 := ⟨_, rfl⟩
  have hb2 : Below w.heap.size w w2 := hw2 ▸ (Below.refl _ _).alloc (Nat.le_refl _) _
  have hg2 : w2.heap[w.heap.size]? = some (.cells #[.int .i64 0, .int .i64 0, .bool false, .bool false, .int .i64 0, .int .i64 0, .int .i64 0, .bool false, .int .u64 0, .int .u64 0, .bool false, .int .u64 0, .int .u64 0, .slice none 0 0] 106 (0, 0)) := hw2 ▸ blk_new _ _ _
  have hlt2 : w.heap.size < w2.heap.size := by rw [← hw2]; simp
  have hx2 : IsB w2 w2.heap.size (some ⟨b, off, none⟩) n xs := hx.on hb2
  have hdl : ∀ l : Later w2, l.w.cell? ⟨b, off, none⟩ = some (.int .u8 (v0 : Nat)) := fun l => l.cell (by rw [← hw2]; exact (((Below.refl _ _).alloc (Nat.le_refl _) _).cell hbl).trans hc0)
  have hd2 : w2.cell? ⟨b, off, none⟩ = some (.int .u8 (v0 : Nat)) := by rw [← hw2]; exact (((Below.refl _ _).alloc (Nat.le_refl _) _).cell hbl).trans hc0
  clear hc0
  unfold hd0C hdC at hw2
  have i0 : 0 < n := by omega
  have k0 : (0 : Int) < (n : Int) := by omega
  have hb : (((v0 : Int) / 16) != 4) = false := by rw [bne_eq_false_iff_eq]; omega
  have e0 : bits .and .u8 (v0 : Int) 15 = ((v0 % 16 : Nat) : Int) := by rw [u8_and15 (v0 : Int) (by omega) (by omega)]; omega
  obtain ⟨r, hr⟩ : ∃ r, v0 % 16 = r := ⟨_, rfl⟩
  rw [hr] at e0
  have e1 : (r : Int) * 4 = (s : Int) := by omega
  have hs60 : s ≤ 60 := by omega
  replace hr := hide hr
  replace hs := hide hs
  replace hv := hide hv
  replace hv0 := hide hv0
  replace hx := hide hx
  replace hx2 := hide hx2
  replace hb2 := hide hb2
  replace hg2 := hide hg2
  replace hal := hide hal
  replace hfl := hide hfl
  have t1 : ¬ (s : Int) < 20 := by omega
  have t2 : ¬ (n : Int) < (s : Int) := by omega
  rw [hfl.out] at h7
  have t3 : (((fl : Int) / 32768) != 0) = false := by rw [bne_eq_false_iff_eq]; omega
  rw [hal.out] at h8
  have t4 : (al : Int) < (s : Int) := by omega
  go_enter Try.func61, Try.ntmps61
  go_wp2_with fail
  clear hw2
  refine wp_region_later (by kernel_rfl) (by kernel_rfl) ?_
  repeat (refine wpQuiet_step (fun K hK => ?_); go_simp; first | (refine hK _ ?_; clear hK K) | (apply Exists.intro; refine ⟨fun l => ?_, hK _ ?_⟩; (go_at_call 36; refine (Octet.at_lit _ _ 2 2 rfl rfl _ _ _ xs _ (IsB.later hx2.out l) (by unfold maxLen; omega) (by omega) (by omega)).mono ?_; rw [hal.out]; rintro e w' ⟨rfl, rfl⟩; exact ⟨rfl, Later.same _ rfl⟩); clear hK K))
  refine wpQuiet_nil ?_
  intro l
  have q1 : IntKind.i64.wrap (r : Int) = (r : Int) := wraps62 _ (by omega) (by omega)
  have q2 : IntKind.i64.wrap ((r : Int) * 4) = (s : Int) := by rw [e1]; exact wraps62 _ (by omega) (by omega)
  have q3 : IntKind.i64.wrap (al : Int) = (al : Int) := wraps62 _ (by omega) (by omega)
  rw [q1, q2, q3]
  clear e0 e1 hdl hd2 q1 q2 q3
  have hx3 := hx2.out.later l
  replace hx3 := hide hx3
  go_wp2_with fail
  refine (Octet.at_lit _ _ 6 2 rfl rfl _ _ _ xs _ hx3.out (by unfold maxLen; omega) (by omega) (by omega)).mono ?_
  rintro e w' ⟨rfl, rfl⟩
  rw [hfl.out]
  have hg4 := blk_below l.hb hlt2 hg2.out
  have hcg := blk_cell hg4
  have hfg := blk_free hg4
  replace hg4 := hide hg4
  have hbl4 := hb2.out.trans (l.hb.mono (Nat.le_of_lt hlt2))
  replace hbl4 := hide hbl4
  go_wp2_with fail
  refine bodyPost_ret (v := .tuple #[hd0, .slice none 0 0, .int .i64 12]) (by simp [results, Try.results61, go_sem, hcg]) rfl ⟨rfl, ?_⟩
  iterate 14 refine below_set ?_ (by rfl) _
  exact hbl4.out
set_option maxRecDepth 4000 in
set_option maxHeartbeats 2000000 in
theorem parse_length2 (A : Option Addr) (n c : Nat) (xs : List UInt8) (w : World) (hx : IsB w w.heap.size A n xs) (_hnc : n ≤ c) (hnm : n ≤ 1099511627776) (h : 20 ≤ n) (hv : (xs.getD 0 0).toNat / 16 = 4) (s : Nat) (hs : (xs.getD 0 0).toNat % 16 * 4 = s) (h5 : 20 ≤ s) (h6 : s ≤ n) (h7 : beN xs 6 2 / 32768 = 0) (h8 : s ≤ beN xs 2 2) (h9 : n < beN xs 2 2) :
    Calls Try.prog 61 #[.slice A n c] w fun e w' => e = .returned (.tuple #[hd0, .slice none 0 0, .int .i64 12]) ∧ Below w.heap.size w w' := by
  obtain ⟨b, off, v0, rfl, hbl, hv0, hv0l, hc0⟩ := hx.byte (i := 0) (by omega)
  rw [Nat.add_zero] at hc0
  rw [hv0] at hv hs
  obtain ⟨al, hal⟩ : ∃ k, beN xs 2 2 = k := ⟨_, rfl⟩
  obtain ⟨fl, hfl⟩ : ∃ k, beN xs 6 2 = k := ⟨_, rfl⟩
  have halt : al < 65536 := by rw [← hal]; exact beN_lt xs 2 2
  have hflt : fl < 65536 := by rw [← hfl]; exact beN_lt xs 6 2
  obtain ⟨w2, hw2⟩ : ∃ w2, w.alloc hd0C = w2 := ⟨_, rfl⟩
  have hb2 : Below w.heap.size w w2 := hw2 ▸ (Below.refl _ _).alloc (Nat.le_refl _) _
  have hg2 : w2.heap[w.heap.size]? = some (.cells #[.int .i64 0, .int .i64 0, .bool false, .bool false, .int .i64 0, .int .i64 0, .int .i64 0, .bool false, .int .u64 0, .int .u64 0, .bool false, .int .u64 0, .int .u64 0, .slice none 0 0] 106 (0, 0)) := hw2 ▸ blk_new _ _ _
  have hlt2 : w.heap.size < w2.heap.size := by rw [← hw2]; simp
  have hx2 : IsB w2 w2.heap.size (some ⟨b, off, none⟩) n xs := hx.on hb2
  have hdl : ∀ l : Later w2, l.w.cell? ⟨b, off, none⟩ = some (.int .u8 (v0 : Nat)) := fun l => l.cell (by rw [← hw2]; exact (((Below.refl _ _).alloc (Nat.le_refl _) _).cell hbl).trans hc0)
  have hd2 : w2.cell? ⟨b, off, none⟩ = some (.int .u8 (v0 : Nat)) := by rw [← hw2]; exact (((Below.refl _ _).alloc (Nat.le_refl _) _).cell hbl).trans hc0
  clear hc0
  unfold hd0C hdC at hw2
  have i0 : 0 < n := by omega
  have k0 : (0 : Int) < (n : Int) := by omega
  have hb : (((v0 : Int) / 16) != 4) = false := by rw [bne_eq_false_iff_eq]; omega
  have e0 : bits .and .u8 (v0 : Int) 15 = ((v0 % 16 : Nat) : Int) := by rw [u8_and15 (v0 : Int) (by omega) (by omega)]; omega
  obtain ⟨r, hr⟩ : ∃ r, v0 % 16 = r := ⟨_, rfl⟩
  rw [hr] at e0
  have e1 : (r : Int) * 4 = (s : Int) := by omega
  have hs60 : s ≤ 60 := by omega
  replace hr := hide hr
  replace hs := hide hs
  replace hv := hide hv
  replace hv0 := hide hv0
  replace hx := hide hx
  replace hx2 := hide hx2
  replace hb2 := hide hb2
  replace hg2 := hide hg2
  replace hal := hide hal
  replace hfl := hide hfl
  have t1 : ¬ (s : Int) < 20 := by omega
  have t2 : ¬ (n : Int) < (s : Int) := by omega
  rw [hfl.out] at h7
  have t3 : (((fl : Int) / 32768) != 0) = false := by rw [bne_eq_false_iff_eq]; omega
  rw [hal.out] at h8
  have t4 : ¬ (al : Int) < (s : Int) := by omega
  rw [hal.out] at h9
  have t5 : (n : Int) < (al : Int) := by omega
  go_enter Try.func61, Try.ntmps61
  go_wp2_with fail
  clear hw2
  refine wp_region_later (by kernel_rfl) (by kernel_rfl) ?_
  repeat (refine wpQuiet_step (fun K hK => ?_); go_simp; first | (refine hK _ ?_; clear hK K) | (apply Exists.intro; refine ⟨fun l => ?_, hK _ ?_⟩; (go_at_call 36; refine (Octet.at_lit _ _ 2 2 rfl rfl _ _ _ xs _ (IsB.later hx2.out l) (by unfold maxLen; omega) (by omega) (by omega)).mono ?_; rw [hal.out]; rintro e w' ⟨rfl, rfl⟩; exact ⟨rfl, Later.same _ rfl⟩); clear hK K))
  refine wpQuiet_nil ?_
  intro l
  have q1 : IntKind.i64.wrap (r : Int) = (r : Int) := wraps62 _ (by omega) (by omega)
  have q2 : IntKind.i64.wrap ((r : Int) * 4) = (s : Int) := by rw [e1]; exact wraps62 _ (by omega) (by omega)
  have q3 : IntKind.i64.wrap (al : Int) = (al : Int) := wraps62 _ (by omega) (by omega)
  rw [q1, q2, q3]
  clear e0 e1 hdl hd2 q1 q2 q3
  have hx3 := hx2.out.later l
  replace hx3 := hide hx3
  go_wp2_with fail
  refine (Octet.at_lit _ _ 6 2 rfl rfl _ _ _ xs _ hx3.out (by unfold maxLen; omega) (by omega) (by omega)).mono ?_
  rintro e w' ⟨rfl, rfl⟩
  rw [hfl.out]
  have hg4 := blk_below l.hb hlt2 hg2.out
  have hcg := blk_cell hg4
  have hfg := blk_free hg4
  replace hg4 := hide hg4
  have hbl4 := hb2.out.trans (l.hb.mono (Nat.le_of_lt hlt2))
  replace hbl4 := hide hbl4
  go_wp2_with fail
  refine bodyPost_ret (v := .tuple #[hd0, .slice none 0 0, .int .i64 12]) (by simp [results, Try.results61, go_sem, hcg]) rfl ⟨rfl, ?_⟩
  iterate 14 refine below_set ?_ (by rfl) _
  exact hbl4.out
theorem isP_one {w : World} (b : Nat) (hb : w.heap.size = b) {t : TypeId} {A : Option Addr} {n c : Nat} {xs : List UInt8} (hx : IsB w w.heap.size A n xs) (hn : n ≤ maxLen) :
    Sum.IsP (w.alloc (.cells #[.slice A n c] t)) (w.alloc (.cells #[.slice A n c] t)).heap.size (some ⟨b, 0, none⟩) 1 [⟨A, c, xs⟩] := by
  have e1 := hx.1
  subst e1 hb
  refine ⟨rfl, fun _ => ⟨w.heap.size, 0, rfl, by simp, fun i hi => ?_⟩, fun p hmem => ?_⟩
  · rw [blk_cell (blk_new _ _ _) (0 + i)]
    obtain rfl : i = 0 := by simp at hi; omega
    rfl
  · simp only [List.mem_cons, List.not_mem_nil, or_false] at hmem
    subst hmem
    exact ⟨hx.alloc _, hn⟩
set_option maxRecDepth 4000 in
set_option maxHeartbeats 2000000 in
theorem parse_sum (A : Option Addr) (n c : Nat) (xs : List UInt8) (w : World) (hx : IsB w w.heap.size A n xs) (hnc : n ≤ c) (hnm : n ≤ 1099511627776) (h : 20 ≤ n) (hv : (xs.getD 0 0).toNat / 16 = 4) (s : Nat) (hs : (xs.getD 0 0).toNat % 16 * 4 = s) (h5 : 20 ≤ s) (h6 : s ≤ n) (h7 : beN xs 6 2 / 32768 = 0) (h8 : s ≤ beN xs 2 2) (h9 : beN xs 2 2 ≤ n) (h10 : Sum.ones (Sum.tot false (xs.take s)) ≠ 65535) :
    Calls Try.prog 61 #[.slice A n c] w fun e w' => e = .returned (.tuple #[hd0, .slice none 0 0, .int .i64 13]) ∧ Below w.heap.size w w' := by
  obtain ⟨b, off, v0, rfl, hbl, hv0, hv0l, hc0⟩ := hx.byte (i := 0) (by omega)
  rw [Nat.add_zero] at hc0
  rw [hv0] at hv hs
  obtain ⟨al, hal⟩ : ∃ k, beN xs 2 2 = k := ⟨_, rfl⟩
  obtain ⟨fl, hfl⟩ : ∃ k, beN xs 6 2 = k := ⟨_, rfl⟩
  have halt : al < 65536 := by rw [← hal]; exact beN_lt xs 2 2
  have hflt : fl < 65536 := by rw [← hfl]; exact beN_lt xs 6 2
  obtain ⟨w2, hw2⟩ : ∃ w2, w.alloc hd0C = w2 := ⟨_, rfl⟩
  have hb2 : Below w.heap.size w w2 := hw2 ▸ (Below.refl _ _).alloc (Nat.le_refl _) _
  have hg2 : w2.heap[w.heap.size]? = some (.cells #[.int .i64 0, .int .i64 0, .bool false, .bool false, .int .i64 0, .int .i64 0, .int .i64 0, .bool false, .int .u64 0, .int .u64 0, .bool false, .int .u64 0, .int .u64 0, .slice none 0 0] 106 (0, 0)) := hw2 ▸ blk_new _ _ _
  have hlt2 : w.heap.size < w2.heap.size := by rw [← hw2]; simp
  have hx2 : IsB w2 w2.heap.size (some ⟨b, off, none⟩) n xs := hx.on hb2
  have hdl : ∀ l : Later w2, l.w.cell? ⟨b, off, none⟩ = some (.int .u8 (v0 : Nat)) := fun l => l.cell (by rw [← hw2]; exact (((Below.refl _ _).alloc (Nat.le_refl _) _).cell hbl).trans hc0)
  have hd2 : w2.cell? ⟨b, off, none⟩ = some (.int .u8 (v0 : Nat)) := by rw [← hw2]; exact (((Below.refl _ _).alloc (Nat.le_refl _) _).cell hbl).trans hc0
  clear hc0
  unfold hd0C hdC at hw2
  have i0 : 0 < n := by omega
  have k0 : (0 : Int) < (n : Int) := by omega
  have hb : (((v0 : Int) / 16) != 4) = false := by rw [bne_eq_false_iff_eq]; omega
  have e0 : bits .and .u8 (v0 : Int) 15 = ((v0 % 16 : Nat) : Int) := by rw [u8_and15 (v0 : Int) (by omega) (by omega)]; omega
  obtain ⟨r, hr⟩ : ∃ r, v0 % 16 = r := ⟨_, rfl⟩
  rw [hr] at e0
  have e1 : (r : Int) * 4 = (s : Int) := by omega
  have hs60 : s ≤ 60 := by omega
  replace hr := hide hr
  replace hs := hide hs
  replace hv := hide hv
  replace hv0 := hide hv0
  replace hx := hide hx
  replace hx2 := hide hx2
  replace hb2 := hide hb2
  replace hg2 := hide hg2
  replace hal := hide hal
  replace hfl := hide hfl
  have t1 : ¬ (s : Int) < 20 := by omega
  have t2 : ¬ (n : Int) < (s : Int) := by omega
  rw [hfl.out] at h7
  have t3 : (((fl : Int) / 32768) != 0) = false := by rw [bne_eq_false_iff_eq]; omega
  rw [hal.out] at h8
  have t4 : ¬ (al : Int) < (s : Int) := by omega
  rw [hal.out] at h9
  have t5 : ¬ (n : Int) < (al : Int) := by omega
  have hr1 : decide (Sum.ones (Sum.tot false (Sum.flat [⟨some ⟨b, off, none⟩, c, xs.take s⟩])) = 65535) = false := by simpa [Sum.flat] using h10
  replace hr1 := hide hr1
  replace h10 := hide h10
  go_enter Try.func61, Try.ntmps61
  go_wp2_with fail
  clear hw2
  refine wp_region_later (by kernel_rfl) (by kernel_rfl) ?_
  repeat (refine wpQuiet_step (fun K hK => ?_); go_simp; first | (refine hK _ ?_; clear hK K) | (apply Exists.intro; refine ⟨fun l => ?_, hK _ ?_⟩; (go_at_call 36; refine (Octet.at_lit _ _ 2 2 rfl rfl _ _ _ xs _ (IsB.later hx2.out l) (by unfold maxLen; omega) (by omega) (by omega)).mono ?_; rw [hal.out]; rintro e w' ⟨rfl, rfl⟩; exact ⟨rfl, Later.same _ rfl⟩); clear hK K))
  refine wpQuiet_nil ?_
  intro l
  have q1 : IntKind.i64.wrap (r : Int) = (r : Int) := wraps62 _ (by omega) (by omega)
  have q2 : IntKind.i64.wrap ((r : Int) * 4) = (s : Int) := by rw [e1]; exact wraps62 _ (by omega) (by omega)
  have q3 : IntKind.i64.wrap (al : Int) = (al : Int) := wraps62 _ (by omega) (by omega)
  rw [q1, q2, q3]
  clear e0 e1 hdl hd2 q1 q2 q3
  have hx3 := hx2.out.later l
  replace hx3 := hide hx3
  go_wp2_with fail
  refine (Octet.at_lit _ _ 6 2 rfl rfl _ _ _ xs _ hx3.out (by unfold maxLen; omega) (by omega) (by omega)).mono ?_
  rintro e w' ⟨rfl, rfl⟩
  rw [hfl.out]
  have hxs := hx3.out.take (m := s) h6
  replace hxs := hide hxs
  have jsc : s ≤ c := by omega
  have k0s : (0 : Int) ≤ (s : Int) := by omega
  have ksc : (s : Int) ≤ (c : Int) := by omega
  go_wp2_with fail
  refine (Sum.right_any _ _ _ [⟨some ⟨b, off, none⟩, c, xs.take s⟩] _ (isP_one _ rfl hxs.out (by unfold maxLen; omega)) (by unfold maxLen; omega) false hr1.out).mono ?_
  rintro e w' ⟨rfl, rfl⟩
  obtain ⟨w3, hw3⟩ : ∃ w3, l.w.alloc (.cells #[.slice (some ⟨b, off, none⟩) s c] 22) = w3 := ⟨_, rfl⟩
  have hbl4 : Below w.heap.size w w3 := hw3 ▸ ((hb2.out.trans (l.hb.mono (Nat.le_of_lt hlt2))).alloc (by have := l.hb.size; omega) _)
  have hlw : Below l.w.heap.size l.w w3 := hw3 ▸ (Below.refl _ _).alloc (Nat.le_refl _) _
  have hg4 := blk_below hlw (Nat.lt_of_lt_of_le hlt2 l.hb.size) (blk_below l.hb hlt2 hg2.out)
  rw [hw3]
  clear hw3
  have hcg := blk_cell hg4
  have hfg := blk_free hg4
  replace hg4 := hide hg4
  replace hbl4 := hide hbl4
  replace hlw := hide hlw
  go_wp2_with fail
  refine bodyPost_ret (v := .tuple #[hd0, .slice none 0 0, .int .i64 13]) (by simp [results, Try.results61, go_sem, hcg]) rfl ⟨rfl, ?_⟩
  iterate 14 refine below_set ?_ (by rfl) _
  exact hbl4.out
set_option maxRecDepth 4000 in
set_option maxHeartbeats 4000000 in
theorem parse_ok (A : Option Addr) (n c : Nat) (xs : List UInt8) (w : World) (hx : IsB w w.heap.size A n xs) (hnc : n ≤ c) (hnm : n ≤ 1099511627776) (h : 20 ≤ n) (hv : (xs.getD 0 0).toNat / 16 = 4) (s : Nat) (hs : (xs.getD 0 0).toNat % 16 * 4 = s) (h5 : 20 ≤ s) (h6 : s ≤ n) (h7 : beN xs 6 2 / 32768 = 0) (h8 : s ≤ beN xs 2 2) (h9 : beN xs 2 2 ≤ n) (h10 : Sum.ones (Sum.tot false (xs.take s)) = 65535) :
    Calls Try.prog 61 #[.slice A n c] w fun e w' => ∃ A1 c1 A2 c2, e = .returned (.tuple #[rawV xs A1 (s - 20) c1, .slice A2 (beN xs 2 2 - s) c2, .int .i64 0]) ∧ IsB w' w'.heap.size A1 (s - 20) ((xs.take s).drop 20) ∧ s - 20 ≤ c1 ∧ c1 ≤ maxLen ∧ OwnB w' w.heap.size (.slice A2 (beN xs 2 2 - s) c2) ((xs.take (beN xs 2 2)).drop s) ∧ Below w.heap.size w w' := by
  obtain ⟨b, off, v0, rfl, hbl, hv0, hv0l, hc0⟩ := hx.byte (i := 0) (by omega)
  rw [Nat.add_zero] at hc0
  rw [hv0] at hv hs
  obtain ⟨al, hal⟩ : ∃ k, beN xs 2 2 = k := ⟨_, rfl⟩
  obtain ⟨fl, hfl⟩ : ∃ k, beN xs 6 2 = k := ⟨_, rfl⟩
  have halt : al < 65536 := by rw [← hal]; exact beN_lt xs 2 2
  have hflt : fl < 65536 := by rw [← hfl]; exact beN_lt xs 6 2
  obtain ⟨w2, hw2⟩ : ∃ w2, w.alloc hd0C = w2 := ⟨_, rfl⟩
  have hb2 : Below w.heap.size w w2 := hw2 ▸ (Below.refl _ _).alloc (Nat.le_refl _) _
  have hg2 : w2.heap[w.heap.size]? = some (.cells #[.int .i64 0, .int .i64 0, .bool false, .bool false, .int .i64 0, .int .i64 0, .int .i64 0, .bool false, .int .u64 0, .int .u64 0, .bool false, .int .u64 0, .int .u64 0, .slice none 0 0] 106 (0, 0)) := hw2 ▸ blk_new _ _ _
  have hlt2 : w.heap.size < w2.heap.size := by rw [← hw2]; simp
  have hx2 : IsB w2 w2.heap.size (some ⟨b, off, none⟩) n xs := hx.on hb2
  have hdl : ∀ l : Later w2, l.w.cell? ⟨b, off, none⟩ = some (.int .u8 (v0 : Nat)) := fun l => l.cell (by rw [← hw2]; exact (((Below.refl _ _).alloc (Nat.le_refl _) _).cell hbl).trans hc0)
  have hd2 : w2.cell? ⟨b, off, none⟩ = some (.int .u8 (v0 : Nat)) := by rw [← hw2]; exact (((Below.refl _ _).alloc (Nat.le_refl _) _).cell hbl).trans hc0
  clear hc0
  unfold hd0C hdC at hw2
  have i0 : 0 < n := by omega
  have k0 : (0 : Int) < (n : Int) := by omega
  have hb : (((v0 : Int) / 16) != 4) = false := by rw [bne_eq_false_iff_eq]; omega
  have e0 : bits .and .u8 (v0 : Int) 15 = ((v0 % 16 : Nat) : Int) := by rw [u8_and15 (v0 : Int) (by omega) (by omega)]; omega
  obtain ⟨r, hr⟩ : ∃ r, v0 % 16 = r := ⟨_, rfl⟩
  rw [hr] at e0
  have e1 : (r : Int) * 4 = (s : Int) := by omega
  have hs60 : s ≤ 60 := by omega
  replace hr := hide hr
  replace hs := hide hs
  replace hv := hide hv
  replace hv0 := hide hv0
  replace hx := hide hx
  replace hx2 := hide hx2
  replace hb2 := hide hb2
  replace hg2 := hide hg2
  replace hal := hide hal
  replace hfl := hide hfl
  have t1 : ¬ (s : Int) < 20 := by omega
  have t2 : ¬ (n : Int) < (s : Int) := by omega
  rw [hfl.out] at h7
  have t3 : (((fl : Int) / 32768) != 0) = false := by rw [bne_eq_false_iff_eq]; omega
  rw [hal.out] at h8
  have t4 : ¬ (al : Int) < (s : Int) := by omega
  rw [hal.out] at h9
  have t5 : ¬ (n : Int) < (al : Int) := by omega
  have hr1 : decide (Sum.ones (Sum.tot false (Sum.flat [⟨some ⟨b, off, none⟩, c, xs.take s⟩])) = 65535) = true := by simpa [Sum.flat] using h10
  replace hr1 := hide hr1
  replace h10 := hide h10
  go_enter Try.func61, Try.ntmps61
  go_wp2_with fail
  clear hw2
  refine wp_region_later (by kernel_rfl) (by kernel_rfl) ?_
  repeat (refine wpQuiet_step (fun K hK => ?_); go_simp; first | (refine hK _ ?_; clear hK K) | (apply Exists.intro; refine ⟨fun l => ?_, hK _ ?_⟩; (go_at_call 36; refine (Octet.at_lit _ _ 2 2 rfl rfl _ _ _ xs _ (IsB.later hx2.out l) (by unfold maxLen; omega) (by omega) (by omega)).mono ?_; rw [hal.out]; rintro e w' ⟨rfl, rfl⟩; exact ⟨rfl, Later.same _ rfl⟩); clear hK K))
  refine wpQuiet_nil ?_
  intro l
  have q1 : IntKind.i64.wrap (r : Int) = (r : Int) := wraps62 _ (by omega) (by omega)
  have q2 : IntKind.i64.wrap ((r : Int) * 4) = (s : Int) := by rw [e1]; exact wraps62 _ (by omega) (by omega)
  have q3 : IntKind.i64.wrap (al : Int) = (al : Int) := wraps62 _ (by omega) (by omega)
  rw [q1, q2, q3]
  clear e0 e1 hdl hd2 q1 q2 q3
  have hx3 := hx2.out.later l
  replace hx3 := hide hx3
  go_wp2_with fail
  refine (Octet.at_lit _ _ 6 2 rfl rfl _ _ _ xs _ hx3.out (by unfold maxLen; omega) (by omega) (by omega)).mono ?_
  rintro e w' ⟨rfl, rfl⟩
  rw [hfl.out]
  have hxs := hx3.out.take (m := s) h6
  replace hxs := hide hxs
  have jsc : s ≤ c := by omega
  have k0s : (0 : Int) ≤ (s : Int) := by omega
  have ksc : (s : Int) ≤ (c : Int) := by omega
  go_wp2_with fail
  refine (Sum.right_any _ _ _ [⟨some ⟨b, off, none⟩, c, xs.take s⟩] _ (isP_one _ rfl hxs.out (by unfold maxLen; omega)) (by unfold maxLen; omega) true hr1.out).mono ?_
  rintro e w' ⟨rfl, rfl⟩
  obtain ⟨w3, hw3⟩ : ∃ w3, l.w.alloc (.cells #[.slice (some ⟨b, off, none⟩) s c] 22) = w3 := ⟨_, rfl⟩
  have hbl4 : Below w.heap.size w w3 := hw3 ▸ ((hb2.out.trans (l.hb.mono (Nat.le_of_lt hlt2))).alloc (by have := l.hb.size; omega) _)
  have hlw : Below l.w.heap.size l.w w3 := hw3 ▸ (Below.refl _ _).alloc (Nat.le_refl _) _
  have hg4 := blk_below hlw (Nat.lt_of_lt_of_le hlt2 l.hb.size) (blk_below l.hb hlt2 hg2.out)
  rw [hw3]
  clear hw3
  have hlt3 : w.heap.size < w3.heap.size := Nat.lt_of_lt_of_le hlt2 (Nat.le_trans l.hb.size hlw.size)
  have hx4 := hx3.out.on hlw
  obtain ⟨A5, hA5⟩ : ∃ A5, (if c = s then some (⟨b, off, none⟩ : Addr) else some ⟨b, off + s, none⟩) = A5 := ⟨_, rfl⟩
  have hx5 : IsB w3 w3.heap.size A5 (al - s) ((xs.take al).drop s) := by
    have h8 := hx4.cut (k := s) (m := al) (cap := c) h8 h9 hnc
    rw [← hA5]
    have hs0 : s ≠ 0 := by omega
    simpa [Addr.add, hs0] using h8
  replace hlw := hide hlw
  replace hx4 := hide hx4
  replace hx5 := hide hx5
  replace hg4 := hide hg4
  replace hbl4 := hide hbl4
  have jac : al ≤ c := by omega
  have ksa : (s : Int) ≤ (al : Int) := by omega
  have kan : (al : Int) ≤ (n : Int) := by omega
  have kac : (al : Int) ≤ (c : Int) := by omega
  go_wp2_with fail
  have hlen : ((xs.take al).drop s).length = al - s := by rw [List.length_drop, List.length_take, hx.out.1]; omega
  replace hlen := hide hlen
  refine wp_region_L (by kernel_rfl) ?_
  refine wpE_seg 0 2 (fuel := 9) (by kernel_rfl) (fun d _ _ _ _ h => by cases d <;> exact h) (by kernel_rfl) (by kernel_rfl) ?_
  simp only [List.drop_zero, List.take_succ_cons, List.take_zero]
  iterate 2 (refine wpQE_step (fun K hK => ?_); go_simp; refine hK _ ?_; clear hK K)
  refine wpQE_nil ?_
  refine wpE_seg 3 4 (fuel := 5) (by kernel_rfl) (fun d _ _ _ _ h => by cases d <;> exact h) (by kernel_rfl) (by kernel_rfl) ?_
  simp only [List.drop_succ_cons, List.drop_zero, List.take_succ_cons, List.take_zero]
  iterate 4 (refine wpQE_step (fun K hK => ?_); go_simp; refine hK _ ?_; clear hK K)
  refine wpQE_nil ?_
  refine wpE_step 2 (fuel := 4) rfl (by kernel_rfl) (fun l1 K hK => ?_)
  go_simp
  go_at_call 82
  refine (raw_any _ _ _ xs s _ rfl _ (IsB.later hx4.out l1) h5 h6 hnc hnm).mono ?_
  rintro e w5 ⟨A1, c1, rfl, hown1, hb5⟩
  refine hK _ _ hb5 ?_
  clear hK K
  have hb35 : Below w3.heap.size w3 w5 := l1.hb.trans (hb5.mono l1.hb.size)
  have hx6 := hx5.out.on hb35
  replace hx6 := hide hx6
  have hown1 := hown1.weaken l1.hb.size
  refine wpE_step 7 (fuel := 3) rfl (by kernel_rfl) (fun l4 K hK => ?_)
  go_simp
  go_at_call 83
  refine (clone_any _ _ _ ((xs.take al).drop s) _ (IsB.later hx6.out l4) (by omega)).mono ?_
  rintro e w6 ⟨v, rfl, hown2, hb6⟩
  refine hK _ _ hb6 ?_
  clear hK K
  have hb56 : Below w5.heap.size w5 w6 := l4.hb.trans (hb6.mono l4.hb.size)
  have hown1 := hown1.below hb56
  have hown2 := hown2.weaken (Nat.le_trans hb35.size l4.hb.size)
  have hb36 : Below w3.heap.size w3 w6 := hb35.trans (hb56.mono hb35.size)
  obtain ⟨A2, c2, rfl, hc2, hm2, hi2⟩ := hown2.form
  rw [hlen.out] at hown2 hc2 ⊢
  clear hi2
  unfold rawV hdV
  refine wpE_end (by kernel_rfl) (fun l3 => ?_)
  have hbx : Below w3.heap.size w3 l3.w := hb36.trans (l3.hb.mono hb36.size)
  have hg5 := blk_below hbx hlt3 hg4.out
  have hcg := blk_cell hg5
  have hfg := blk_free hg5
  have hb6 : Below w.heap.size w l3.w := hbl4.out.trans (hbx.mono (Nat.le_of_lt hlt3))
  have hown3 := hown1.below l3.hb
  have hown4 := hown2.below l3.hb
  have hne : ∀ A' n' c', ∀ ys : List UInt8, OwnB l3.w w3.heap.size (Value.slice A' n' c') ys → ((Value.slice A' n' c').ownBlock = none ∨ (Value.slice A' n' c').ownBlock ≠ some w.heap.size) := by
    intro A' n' c' ys ho
    rcases hob : (Value.slice A' n' c').ownBlock with _ | k
    · exact .inl rfl
    · right
      intro e
      have h1 := (ho.lt k hob).1
      cases e
      omega
  have hn3 := hne _ _ _ _ hown3
  have hn4 := hne _ _ _ _ hown4
  obtain ⟨_, hq1, hq2, _⟩ := hown3.reads
  replace hown1 := hide hown1
  replace hown2 := hide hown2
  replace hown3 := hide hown3
  replace hown4 := hide hown4
  replace hn3 := hide hn3
  replace hn4 := hide hn4
  replace hg5 := hide hg5
  replace hb6 := hide hb6
  clear hne
  refine wpT_step 8 rfl (by kernel_rfl) (fun K hK => ?_)
  go_simp
  refine hK _ _ ?_
  clear hK K
  refine wpT_step 9 rfl (by kernel_rfl) (fun K hK => ?_)
  go_simp
  refine hK _ _ ?_
  clear hK K
  refine wpT_step 10 rfl (by kernel_rfl) (fun K hK => ?_)
  go_simp
  refine hK _ _ ?_
  clear hK K
  refine wpT_done (by kernel_rfl) ?_ 0
  go_wp2
  refine bodyPost_ret (v := .tuple #[rawV xs A1 (s - 20) c1, .slice A2 (al - s) c2, .int .i64 0]) (by simp [results, Try.results61, go_sem, hcg]) rfl ⟨A1, c1, A2, c2, ?_, ?_, hq1, hq2, ?_, ?_⟩
  · rw [hal.out]
  · refine (hown3.out.kept (row := some w.heap.size) ?_ hn3.out).reads.2.2.2
    iterate 14 refine grown_set ?_ (by rfl) _
    exact grown_refl _ _
  · rw [hal.out]
    refine OwnB.weaken (hown4.out.kept (row := some w.heap.size) ?_ hn4.out) (Nat.le_of_lt hlt3)
    iterate 14 refine grown_set ?_ (by rfl) _
    exact grown_refl _ _
  · iterate 14 refine below_set ?_ (by rfl) _
    exact hb6.out
end Four
end Go.Proofs.Ytfmmmjaficbchaa
