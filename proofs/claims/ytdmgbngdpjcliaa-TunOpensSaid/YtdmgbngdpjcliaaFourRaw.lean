/- four.raw: the header that bytes are, by contract. Conditions: slices of bytes that read as lists, a header's length that lies within. -/
import Derived.Test.YtdmgbngdpjcliaaFourHead
import Derived.Test.YtdmgbngdpjcliaaRegion
import Derived.Test.YtdmgbngdpjcliaaBits
namespace Go.Proofs.Ytdmgbngdpjcliaa
open Go.RowKit Go.ChangeShapes Go.WideShapes Go.ChangeAt Go.Deep
theorem below_set {n : Nat} {a b : World} (h : Below n a b) {p : Addr} (hp : p.block = n) (u : Value) : Below n a (b.setCell p u) := h.setCell (Nat.le_of_eq hp.symm) u
namespace Four
/-- The header that bytes are. -/
abbrev rawV (xs : List UInt8) (A : Option Addr) (n c : Nat) : Value :=
  hdV ((xs.getD 1 0).toNat : Nat) (beN xs 4 2 : Nat) (decide (beN xs 6 2 / 16384 % 2 = 1)) (decide (beN xs 6 2 / 8192 % 2 = 1)) (beN xs 6 2 % 8192 : Nat) ((xs.getD 8 0).toNat : Nat) ((xs.getD 9 0).toNat : Nat)
    false 0 (beN xs 12 4 : Nat) false 0 (beN xs 16 4 : Nat) A n c
set_option maxRecDepth 4000 in
set_option maxHeartbeats 4000000 in
theorem raw_any (A : Option Addr) (n c : Nat) (xs : List UInt8) (size : Nat) (si : Int) (hsi : si = (size : Int)) (w : World) (hx : IsB w w.heap.size A n xs) (h20 : 20 ≤ size) (hsn : size ≤ n) (hnc : n ≤ c) (hnm : n ≤ 1099511627776) :
    Calls Try.prog 54 #[.slice A n c, .int .i64 si] w fun e w' => ∃ A' c', e = .returned (rawV xs A' (size - 20) c') ∧ OwnB w' w.heap.size (.slice A' (size - 20) c') ((xs.take size).drop 20) ∧ Below w.heap.size w w' := by
  subst hsi
  obtain ⟨b, off, v1, rfl, hbl, hv1, hv1l, hc1⟩ := hx.byte (i := 1) (by omega)
  obtain ⟨v8, hv8, hv8l, hc8⟩ := hx.byteAt (i := 8) (by omega)
  obtain ⟨v9, hv9, hv9l, hc9⟩ := hx.byteAt (i := 9) (by omega)
  obtain ⟨fl, hfl⟩ : ∃ k, beN xs 6 2 = k := ⟨_, rfl⟩
  obtain ⟨idn, hid⟩ : ∃ k, beN xs 4 2 = k := ⟨_, rfl⟩
  obtain ⟨sn, hsn'⟩ : ∃ k, beN xs 12 4 = k := ⟨_, rfl⟩
  obtain ⟨dn, hdn⟩ : ∃ k, beN xs 16 4 = k := ⟨_, rfl⟩
  have hflt : fl < 65536 := by rw [← hfl]; exact beN_lt xs 6 2
  have hidt : idn < 65536 := by rw [← hid]; exact beN_lt xs 4 2
  have hsnt : sn < 4294967296 := by rw [← hsn']; exact beN_lt xs 12 4
  have hdnt : dn < 4294967296 := by rw [← hdn]; exact beN_lt xs 16 4
  obtain ⟨w2, hw2⟩ : ∃ w2, w.alloc (hdC 0 0 false false 0 0 0 false 0 0 false 0 0 none 0 0) = w2 := ⟨_, rfl⟩
  have hb2 : Below w.heap.size w w2 := hw2 ▸ (Below.refl _ _).alloc (Nat.le_refl _) _
  have hg2 : w2.heap[w.heap.size]? = some (hdC 0 0 false false 0 0 0 false 0 0 false 0 0 none 0 0 |> fun | .cells a t => .cells a t (0, 0) | o => o) := hw2 ▸ blk_new _ _ _
  have hlt2 : w.heap.size < w2.heap.size := by rw [← hw2]; simp
  have hx2 : IsB w2 w2.heap.size (some ⟨b, off, none⟩) n xs := hx.on hb2
  have hd1 : ∀ l : Later w2, l.w.cell? ⟨b, off + 1, none⟩ = some (.int .u8 (v1 : Nat)) := fun l => l.cell (by rw [← hw2]; exact (((Below.refl _ _).alloc (Nat.le_refl _) _).cell hbl).trans hc1)
  have hd8 : ∀ l : Later w2, l.w.cell? ⟨b, off + 8, none⟩ = some (.int .u8 (v8 : Nat)) := fun l => l.cell (by rw [← hw2]; exact (((Below.refl _ _).alloc (Nat.le_refl _) _).cell hbl).trans hc8)
  have hd9 : ∀ l : Later w2, l.w.cell? ⟨b, off + 9, none⟩ = some (.int .u8 (v9 : Nat)) := fun l => l.cell (by rw [← hw2]; exact (((Below.refl _ _).alloc (Nat.le_refl _) _).cell hbl).trans hc9)
  clear hc1 hc8 hc9
  obtain ⟨A20, hA20⟩ : ∃ A20, (if c = 20 then some (⟨b, off, none⟩ : Addr) else some ⟨b, off + 20, none⟩) = A20 := ⟨_, rfl⟩
  have hx20 : IsB w2 w2.heap.size A20 (size - 20) ((xs.take size).drop 20) := by
    have h8 := hx2.cut (k := 20) (m := size) (cap := c) h20 hsn hnc
    rw [← hA20]
    exact h8
  unfold hdC at hw2 hg2
  replace hx := hide hx
  replace hx2 := hide hx2
  replace hx20 := hide hx20
  replace hb2 := hide hb2
  replace hg2 := hide hg2
  replace hv1 := hide hv1
  replace hv8 := hide hv8
  replace hv9 := hide hv9
  replace hfl := hide hfl
  replace hid := hide hid
  replace hsn' := hide hsn'
  replace hdn := hide hdn
  go_enter Try.func54, Try.ntmps54
  go_wp2_with fail
  refine (Octet.at_lit _ _ 6 2 rfl rfl _ _ _ xs _ hx2.out (by unfold maxLen; omega) (by omega) (by omega)).mono ?_
  rintro e w' ⟨rfl, rfl⟩
  rw [hfl.out]
  clear hw2
  have i1 : 1 < n := by omega
  have i8 : 8 < n := by omega
  have i9 : 9 < n := by omega
  have k1 : (1 : Int) < (n : Int) := by omega
  have k8 : (8 : Int) < (n : Int) := by omega
  have k9 : (9 : Int) < (n : Int) := by omega
  have k20 : (20 : Int) ≤ (size : Int) := by omega
  have ksn : (size : Int) ≤ (n : Int) := by omega
  have jsc : size ≤ c := by omega
  go_wp2_with fail
  refine wp_region_L (by kernel_rfl) ?_
  refine wpE_seg 0 36 (fuel := 3) (by kernel_rfl) (fun d _ _ _ _ h => by cases d <;> exact h) (by kernel_rfl) (by kernel_rfl) ?_
  simp only [List.drop_zero, List.take_succ_cons, List.take_zero]
  iterate 5 (refine wpQE_step (fun K hK => ?_); go_simp; (try go_bits); refine hK _ ?_; clear hK K)
  (refine wpQE_step (fun K hK => ?_); go_simp; apply Exists.intro; refine ⟨fun l => ?_, hK _ ?_⟩; (go_at_call 39; refine (Octet.at_lit _ _ 4 2 rfl rfl _ _ _ xs _ (IsB.later hx2.out l) (by unfold maxLen; omega) (by omega) (by omega)).mono ?_; rw [hid.out]; rintro e w' ⟨rfl, rfl⟩; exact ⟨rfl, lt_refl _⟩); clear hK K)
  iterate 20 (refine wpQE_step (fun K hK => ?_); go_simp; (try go_bits); refine hK _ ?_; clear hK K)
  (refine wpQE_step (fun K hK => ?_); go_simp; apply Exists.intro; refine ⟨fun l => ?_, hK _ ?_⟩; (go_at_call 39; refine (Octet.at_lit _ _ 12 4 rfl rfl _ _ _ xs _ (IsB.later hx2.out l) (by unfold maxLen; omega) (by omega) (by omega)).mono ?_; rw [hsn'.out]; rintro e w' ⟨rfl, rfl⟩; exact ⟨rfl, lt_refl _⟩); clear hK K)
  iterate 1 (refine wpQE_step (fun K hK => ?_); go_simp; (try go_bits); refine hK _ ?_; clear hK K)
  (refine wpQE_step (fun K hK => ?_); go_simp; apply Exists.intro; refine ⟨fun l => ?_, hK _ ?_⟩; (go_at_call 48; refine (v4_any _ _ (by omega) (by omega)).mono ?_; rintro e w' ⟨rfl, hb⟩; exact ⟨rfl, hb⟩); clear hK K)
  iterate 1 (refine wpQE_step (fun K hK => ?_); go_simp; (try go_bits); refine hK _ ?_; clear hK K)
  (refine wpQE_step (fun K hK => ?_); go_simp; apply Exists.intro; refine ⟨fun l => ?_, hK _ ?_⟩; (go_at_call 39; refine (Octet.at_lit _ _ 16 4 rfl rfl _ _ _ xs _ (IsB.later hx2.out l) (by unfold maxLen; omega) (by omega) (by omega)).mono ?_; rw [hdn.out]; rintro e w' ⟨rfl, rfl⟩; exact ⟨rfl, lt_refl _⟩); clear hK K)
  iterate 1 (refine wpQE_step (fun K hK => ?_); go_simp; (try go_bits); refine hK _ ?_; clear hK K)
  (refine wpQE_step (fun K hK => ?_); go_simp; apply Exists.intro; refine ⟨fun l => ?_, hK _ ?_⟩; (go_at_call 48; refine (v4_any _ _ (by omega) (by omega)).mono ?_; rintro e w' ⟨rfl, hb⟩; exact ⟨rfl, hb⟩); clear hK K)
  iterate 3 (refine wpQE_step (fun K hK => ?_); go_simp; (try go_bits); refine hK _ ?_; clear hK K)
  refine wpQE_nil ?_
  refine wpE_step 36 (fuel := 2) rfl (by kernel_rfl) (fun l K hK => ?_)
  go_simp
  go_at_call 55
  refine (clone_any _ _ _ ((xs.take size).drop 20) _ ?_ (by omega)).mono ?_
  · exact IsB.later hx20.out l
  rintro e w3 ⟨v, rfl, hown, hb3⟩
  refine hK _ _ hb3 ?_
  clear hK K
  have hlen : ((xs.take size).drop 20).length = size - 20 := by rw [List.length_drop, List.length_take, hx.out.1]; omega
  obtain ⟨A', c', rfl, hc', hm', hi'⟩ := hown.form
  rw [hlen] at hc' hown ⊢
  replace hlen := hide hlen
  refine wpE_seg 37 1 (fuel := 1) (by kernel_rfl) (fun d _ _ _ _ h => by cases d <;> exact h) (by kernel_rfl) (by kernel_rfl) ?_
  simp only [List.drop_succ_cons, List.drop_zero, List.take_succ_cons, List.take_zero]
  iterate 1 (refine wpQE_step (fun K hK => ?_); go_simp; refine hK _ ?_; clear hK K)
  refine wpQE_nil ?_
  refine wpE_end (by kernel_rfl) (fun l2 => ?_)
  have hg3 : l2.w.heap[w.heap.size]? = _ := blk_below l2.hb (Nat.lt_of_lt_of_le hlt2 (Nat.le_trans l.hb.size hb3.size)) (blk_below hb3 (Nat.lt_of_lt_of_le hlt2 l.hb.size) (blk_below l.hb hlt2 hg2.out))
  have hcg := blk_cell hg3
  have hfg := blk_free hg3
  have hb4 : Below w.heap.size w l2.w := ((hb2.out.trans (l.hb.mono (by omega))).trans (hb3.mono (Nat.le_trans (Nat.le_of_lt hlt2) l.hb.size))).trans (l2.hb.mono (Nat.le_trans (Nat.le_of_lt hlt2) (Nat.le_trans l.hb.size hb3.size)))
  replace hg3 := hide hg3
  replace hb4 := hide hb4
  refine wpT_step 38 rfl (by kernel_rfl) (fun K hK => ?_)
  go_simp
  refine hK _ _ ?_
  clear hK K
  refine wpT_done (by kernel_rfl) ?_ 0
  have e1 := i64_and1 ((fl : Int) / 16384) (by omega) (by omega)
  have e2 := i64_and1 ((fl : Int) / 8192) (by omega) (by omega)
  have e3 := i64_and8191 (fl : Int) (by omega) (by omega)
  have d1 : (((fl : Int) / 16384 % 2) == 1) = decide (fl / 16384 % 2 = 1) := beq_nat (fl / 16384 % 2) 1
  have d2 : (((fl : Int) / 8192 % 2) == 1) = decide (fl / 8192 % 2 = 1) := beq_nat (fl / 8192 % 2) 1
  rw [e1, e2, e3, d1, d2]
  go_wp2
  have hown4 := hown.below l2.hb
  have hne : (Value.slice A' (size - 20) c').ownBlock = none ∨ (Value.slice A' (size - 20) c').ownBlock ≠ some w.heap.size := by
    rcases hob : (Value.slice A' (size - 20) c').ownBlock with _ | k
    · exact .inl rfl
    · right
      intro e
      have h1 := (hown.lt k hob).1
      have h2 := l.hb.size
      cases e
      omega
  refine bodyPost_ret (v := hdV (v1 : Nat) (idn : Nat) (decide (fl / 16384 % 2 = 1)) (decide (fl / 8192 % 2 = 1)) ((fl : Int) % 8192) (v8 : Nat) (v9 : Nat) false 0 (sn : Nat) false 0 (dn : Nat) A' (size - 20) c') (by simp [results, Try.results54, go_sem, hcg]) rfl ⟨A', c', ?_, ?_, ?_⟩
  · unfold rawV
    rw [hv1.out, hv8.out, hv9.out, hfl.out, hid.out, hsn'.out, hdn.out]
    rfl
  · refine OwnB.weaken (hown4.kept (row := some w.heap.size) ?_ hne) (Nat.le_trans (Nat.le_of_lt hlt2) l.hb.size)
    iterate 14 refine grown_set ?_ rfl _
    exact grown_refl _ _
  · iterate 14 refine below_set ?_ (by rfl) _
    exact hb4.out
end Four
end Go.Proofs.Ytdmgbngdpjcliaa
