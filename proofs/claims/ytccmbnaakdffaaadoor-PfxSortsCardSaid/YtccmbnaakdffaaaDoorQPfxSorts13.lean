/- slices: symMerge, on a row of prefixes. Conditions: both parts are sorted, and what stands ahead stood ahead. -/
import Derived.Test.YtccmbnaakdffaaaDoorQPfxSorts12
import Derived.Test.YtccmbnaakdffaaaDoorQPfxSorts11
import Derived.Test.YtccmbnaakdffaaaDoorQPfxSorts10
namespace Go.Proofs.YtccmbnaakdffaaaDoor
open Go.RowKit Go.ChangeShapes Go.WideShapes Go.ChangeAt Go.Deep
namespace Sort06
theorem rot_id {X : Nat → El} {s m e : Nat} (h1 : s ≤ m) (h2 : m ≤ e) (h : ¬ (s < m ∧ m < e)) : rot X s m e = X := by
  funext k
  unfold rot
  repeat' split
  all_goals first | (exfalso; omega) | (congr 1; omega) | rfl
theorem wrap_nat {x : Int} {k : Nat} (h : x = (k : Int)) (hk : k ≤ 4398046511104) : IntKind.i64.wrap x = (k : Int) := by rw [h, wraps62 _ (by omega) (by omega)]
theorem mid_of {a b s q : Nat} (hs : a + b = s) (hq : s / 2 = q) : 2 * q ≤ a + b ∧ a + b ≤ 2 * q + 1 := by omega
/-- Where the search may stand. -/
structure Rng (a m b d s0 r0 : Nat) : Prop where
  lo : 2 * d ≤ a + b
  hi : a + b ≤ 2 * d + 1
  am : a < m
  mb : m < b
  h0 : if d < m then s0 = d + m - b ∧ r0 = d else s0 = a ∧ r0 = m
theorem Rng.at {a m b d s0 r0 c : Nat} (h : Rng a m b d s0 r0) (h1 : s0 ≤ c) (h2 : c < r0) : a ≤ c ∧ c < m ∧ m ≤ d + m - 1 - c ∧ d + m - 1 - c < b := by
  have := h.lo; have := h.hi; have := h.am; have := h.mb; have := h.h0
  split at this <;> omega
theorem Rng.le {a m b d s0 r0 : Nat} (h : Rng a m b d s0 r0) : s0 ≤ r0 ∧ r0 ≤ m ∧ r0 ≤ d ∧ d < b ∧ a ≤ d := by
  have := h.lo; have := h.hi; have := h.am; have := h.mb; have := h.h0
  split at this <;> omega
theorem Rng.eq {a m b d s0 r0 : Nat} (h : Rng a m b d s0 r0) : d = (a + b) / 2 := by
  have := h.lo; have := h.hi
  omega
/-- The search goes on. -/
theorem search_lo {X : Nat → El} {a m b d s0 r0 s q : Nat} (h : Rng a m b d s0 r0) (s1 : Srt X a m) (s2 : Srt X m b) (hl : ∀ c, s0 ≤ c → c < s → R (X c) (X (d + m - 1 - c))) (hs : s0 ≤ s) (hq : q < r0) (hsq : s ≤ q) (hr : R (X q) (X (d + m - 1 - q))) : ∀ c, s0 ≤ c → c < q + 1 → R (X c) (X (d + m - 1 - c)) := by
  intro c h1 h2
  by_cases hc : c < s
  · exact hl c h1 hc
  · obtain ⟨a1, a2, a3, a4⟩ := h.at (c := q) (by omega) hq
    obtain ⟨b1, b2, b3, b4⟩ := h.at (c := c) h1 (by omega)
    by_cases he : c = q
    · rw [he]; exact hr
    · exact ((s1 c q b1 (by omega) a2).trans hr).trans (s2 _ _ a3 (by omega) b4)
theorem search_hi {X : Nat → El} {a m b d s0 r0 r q : Nat} (h : Rng a m b d s0 r0) (s1 : Srt X a m) (s2 : Srt X m b) (hl : ∀ c, r ≤ c → c < r0 → R (X (d + m - 1 - c)) (X c)) (hs : s0 ≤ q) (hq : q < r) (hr0 : r ≤ r0) (hr : R (X (d + m - 1 - q)) (X q)) : ∀ c, q ≤ c → c < r0 → R (X (d + m - 1 - c)) (X c) := by
  intro c h1 h2
  by_cases hc : r ≤ c
  · exact hl c hc h2
  · obtain ⟨a1, a2, a3, a4⟩ := h.at (c := q) hs (by omega)
    obtain ⟨b1, b2, b3, b4⟩ := h.at (c := c) (by omega) h2
    by_cases he : c = q
    · rw [he]; exact hr
    · exact ((s2 _ _ b3 (by omega) a4).trans hr).trans (s1 q c a1 (by omega) b2)
def SymSaid (g n c d : Nat) : Prop := ∀ (a m b : Nat) (X : Nat → El), b - a ≤ d → a < m → m < b → b ≤ n → Srt X a m → Srt X m b → Tg X a m b → ∀ w, RowF w g n X →
    Calls Tryd.prog 74 #[.slice (some ⟨g, 0, none⟩) n c, .int .i64 (a : Int), .int .i64 (m : Int), .int .i64 (b : Int), cmpV] w fun e w' => e = .returned (.tuple #[]) ∧ SymEnd g n a b X w w'
set_option maxRecDepth 20000 in
set_option maxHeartbeats 8000000 in
theorem symC (g n c : Nat) (hn : n ≤ 1099511627776) (a m b : Nat) (X : Nat → El) (dd : Nat) (ih : SymSaid g n c dd) (hd : b - a ≤ dd + 1) (ham : a < m) (hmb : m < b) (hb : b ≤ n) (hne1 : m ≠ a + 1) (hne2 : b ≠ m + 1) (hs1 : Srt X a m) (hs2 : Srt X m b) (htg : Tg X a m b) (w : World) (h : RowF w g n X) :
    Calls Tryd.prog 74 #[.slice (some ⟨g, 0, none⟩) n c, .int .i64 (a : Int), .int .i64 (m : Int), .int .i64 (b : Int), cmpV] w fun e w' => e = .returned (.tuple #[]) ∧ SymEnd g n a b X w w' := by
  unfold SymSaid cmpV at ih
  unfold cmpV
  obtain ⟨d1, hd1⟩ : ∃ d, m - a = d := ⟨_, rfl⟩
  obtain ⟨d2, hd2⟩ : ∃ d, b - m = d := ⟨_, rfl⟩
  have t0 : IntKind.i64.wrap ((m : Int) - (a : Int)) = (d1 : Int) := wrap_nat (by omega) (by omega)
  have t1 : IntKind.i64.wrap ((b : Int) - (m : Int)) = (d2 : Int) := wrap_nat (by omega) (by omega)
  have t00 : ((d1 : Int) == 1) = false := by simp; omega
  have t01 : ¬ (d1 : Int) = 1 := by omega
  have t10 : ((d2 : Int) == 1) = false := by simp; omega
  have t11 : ¬ (d2 : Int) = 1 := by omega
  have w1 : IntKind.i64.wrap ((a : Int) + (b : Int)) = ((a + b : Nat) : Int) := wrap_nat (by omega) (by omega)
  have w2 : IntKind.u64.wrap ((a + b : Nat) : Int) = ((a + b : Nat) : Int) := wrapsu64 _ (by omega) (by omega)
  have hsb : a + b ≤ 2199023255552 := by omega
  obtain ⟨s, hs⟩ : ∃ s, a + b = s := ⟨_, rfl⟩
  rw [hs] at w1 w2 hsb
  obtain ⟨mid, hq⟩ : ∃ q, s / 2 = q := ⟨_, rfl⟩
  have w3 : wrap64 ((s : Int) / 2) = (mid : Int) := wrap_half hs hq hsb
  obtain ⟨hm1, hm2⟩ := mid_of hs hq
  clear hs hq hsb
  obtain ⟨S0, hS0⟩ : ∃ x, (if mid < m then mid + m - b else a) = x := ⟨_, rfl⟩
  obtain ⟨R0, hR0⟩ : ∃ x, (if mid < m then mid else m) = x := ⟨_, rfl⟩
  have hrng : Rng a m b mid S0 R0 := ⟨hm1, hm2, ham, hmb, by
    by_cases hc : mid < m
    · rw [if_pos hc] at hS0 hR0 ⊢; exact ⟨hS0.symm, hR0.symm⟩
    · rw [if_neg hc] at hS0 hR0 ⊢; exact ⟨hS0.symm, hR0.symm⟩⟩
  obtain ⟨hsr0, hr0m, hr0d, hdb, had⟩ := hrng.le
  have wN : IntKind.i64.wrap ((mid : Int) + (m : Int)) = ((mid + m : Nat) : Int) := wrap_nat (by omega) (by omega)
  obtain ⟨NN, hNN⟩ : ∃ x, mid + m = x := ⟨_, rfl⟩
  rw [hNN] at wN
  obtain ⟨pp, hpp⟩ : ∃ x, NN - 1 = x := ⟨_, rfl⟩
  have wP : IntKind.i64.wrap ((NN : Int) - 1) = (pp : Int) := wrap_nat (by omega) (by omega)
  obtain ⟨NB, hNB⟩ : ∃ x, NN - b = x := ⟨_, rfl⟩
  have wB : mid < m → IntKind.i64.wrap ((NN : Int) - (b : Int)) = (NB : Int) := fun h => wrap_nat (by omega) (by omega)
  replace h := hide h
  replace hs1 := hide hs1
  replace hs2 := hide hs2
  replace htg := hide htg
  replace hrng := hide hrng
  replace hS0 := hide hS0
  replace hR0 := hide hR0
  replace ih := hide ih
  replace wB := hide wB
  go_enter Tryd.func74, Tryd.ntmps74
  go_upto_if 140 with fail
  go_cut [18, 20, 21] from 129 to 146 (fun dv sv rv wx => dv = .int .i64 (mid : Int) ∧ sv = .int .i64 (S0 : Int) ∧ rv = .int .i64 (R0 : Int) ∧ w = wx)
  case first =>
    by_cases hc : mid < m
    · have i0 : (mid : Int) < (m : Int) := by omega
      have e1 := hS0.out
      have e2 := hR0.out
      rw [if_pos hc] at e1 e2
      have wB' := wB.out hc
      have e3 : NB = S0 := by omega
      rw [e3] at wB'
      clear e1 e3
      replace e2 := hide e2
      go_wp2_with fail
      go_meet
      exact ⟨by first | rfl | (rw [w3]), by first | rfl | (rw [wB']), by first | (rw [e2.out]; done) | (rw [w3, e2.out]), rfl⟩
    · have i0 : ¬ (mid : Int) < (m : Int) := by omega
      have e1 := hS0.out
      have e2 := hR0.out
      rw [if_neg hc] at e1 e2
      replace e1 := hide e1
      replace e2 := hide e2
      go_wp2_with fail
      go_meet
      exact ⟨by first | rfl | (rw [w3]), by rw [e1.out], by rw [e2.out], rfl⟩
  case rest =>
  obtain ⟨rfl, rfl, rfl, rfl⟩ := hcut
  clear w1 w2 w3
  go_wp2_with fail
  go_loopw [20, 21, 23] (fun iv jv _ wr => ∃ i j : Nat, S0 ≤ i ∧ i ≤ j ∧ j ≤ R0 ∧ iv = .int .i64 (i : Int) ∧ jv = .int .i64 (j : Int) ∧ (∀ k, S0 ≤ k → k < i → R (X k) (X (mid + m - 1 - k))) ∧ (∀ k, j ≤ k → k < R0 → R (X (mid + m - 1 - k)) (X k)) ∧ RowF wr g n X ∧ w.grownBy wr (some g)) (fun iv jv _ _ => (intOf jv).toNat - (intOf iv).toNat)
  case atStart => exact ⟨S0, R0, Nat.le_refl _, hsr0, Nat.le_refl _, rfl, rfl, fun k h1 h2 => by omega, fun k h1 h2 => by omega, h.out, grown_refl _ _⟩
  case round =>
    obtain ⟨i, j, hmi, hij, hjb, rfl, rfl, hlo, hup, hr, hg⟩ := hrel
    by_cases hlt : i < j
    · have i0 : (i : Int) < (j : Int) := by omega
      have w1 : IntKind.i64.wrap ((i : Int) + (j : Int)) = ((i + j : Nat) : Int) := by rw [wraps62 _ (by omega) (by omega)]; omega
      have w2 : IntKind.u64.wrap ((i + j : Nat) : Int) = ((i + j : Nat) : Int) := wrapsu64 _ (by omega) (by omega)
      have hsb : i + j ≤ 2199023255552 := by omega
      obtain ⟨s2, hs⟩ : ∃ s, i + j = s := ⟨_, rfl⟩
      rw [hs] at w1 w2 hsb
      obtain ⟨q, hq⟩ : ∃ q, s2 / 2 = q := ⟨_, rfl⟩
      have w3q : wrap64 ((s2 : Int) / 2) = (q : Int) := wrap_half hs hq hsb
      obtain ⟨hiq, hqj⟩ := half_lt hlt hs hq
      replace hs := hide hs
      replace hq := hide hq
      clear hsb
      have hqn : q < 1099511627776 := by clear w1 w2 w3q; omega
      have w4 : IntKind.i64.wrap ((q : Int) + 1) = ((q + 1 : Nat) : Int) := wrap_succ hqn
      obtain ⟨g1, g2, g3, g4⟩ := hrng.out.at (c := q) (by omega) (by omega)
      have iq : q < n := by omega
      have iq' : (q : Int) < (n : Int) := by omega
      obtain ⟨pq, hpq⟩ : ∃ x, mid + m - 1 - q = x := ⟨_, rfl⟩
      have wpq : IntKind.i64.wrap ((pp : Int) - (q : Int)) = (pq : Int) := wrap_nat (by omega) (by omega)
      have ip : pq < n := by omega
      have ip' : (pq : Int) < (n : Int) := by omega
      have gl := hr.lt
      have p0 := fun (l : Later wr) => (hr.below l.hb).c0 ip
      have p1 := fun (l : Later wr) => (hr.below l.hb).c1 ip
      have p2 := fun (l : Later wr) => (hr.below l.hb).c2 ip
      have p3 := fun (l : Later wr) => (hr.below l.hb).c3 ip
      have q0 := fun (l : Later wr) => (hr.below l.hb).c0 iq
      have q1 := fun (l : Later wr) => (hr.below l.hb).c1 iq
      have q2 := fun (l : Later wr) => (hr.below l.hb).c2 iq
      have q3 := fun (l : Later wr) => (hr.below l.hb).c3 iq
      have hc := fun w => cmp_any (X pq) (X q) w
      have hcl := cmpE_lt (X pq) (X q)
      obtain ⟨E, hE⟩ : ∃ E, cmpE (X pq) (X q) = E := ⟨_, rfl⟩
      rw [hE] at hc hcl
      unfold elA at hc
      clear hE
      by_cases hk : E < 0
      · have hup2 := search_hi hrng.out hs1.out hs2.out hup (show S0 ≤ q by omega) hqj hjb (by rw [hpq]; exact R_of_kl (hcl.1 hk))
        clear hcl hup
        replace hlo := hide hlo
        replace hup2 := hide hup2
        replace hr := hide hr
        replace hg := hide hg
        replace hc := hide hc
        replace hpq := hide hpq
        go_upto_region 35 with fail
        refine wp_region_L (by as_aux_lemma => kernel_rfl) ?_
        refine wpE_seg 0 14 (fuel := 0) (by as_aux_lemma => kernel_rfl) (fun d _ _ _ _ h => by cases d <;> exact h) (by as_aux_lemma => kernel_rfl) (by as_aux_lemma => kernel_rfl) ?_
        simp only [List.drop_zero, List.take_succ_cons, List.take_zero]
        iterate 11 (refine wpQE_step (fun K hK => ?_); go_simp; refine hK _ ?_; clear hK K)
        (refine wpQE_step (fun K hK => ?_); go_simp; apply Exists.intro; refine ⟨fun l => ?_, hK _ ?_⟩; (go_at_call 58; refine (hc.out l.w).mono ?_; rintro e w' ⟨rfl, hb⟩; exact ⟨rfl, hb⟩); clear hK K)
        iterate 2 (refine wpQE_step (fun K hK => ?_); go_simp; refine hK _ ?_; clear hK K)
        refine wpQE_nil ?_
        refine wpE_done (by as_aux_lemma => kernel_rfl) (fun w9 hb9 => ?_) 0
        clear p0 p1 p2 p3 q0 q1 q2 q3
        have hr9 := hr.out.below hb9
        have hg9 := grown_trans' _ _ _ hg.out (grown_of_below hb9)
        clear hr hg hb9 hc
        replace hr9 := hide hr9
        replace hg9 := hide hg9
        go_wp2_with fail
        exact ⟨⟨i, q, hmi, hiq, by omega, rfl, by first | rfl | go_num, hlo.out, hup2.out, hr9.out, hg9.out⟩, by simp only [intOf, Int.toNat_natCast]; omega⟩
      · have hkl : R (X q) (X (mid + m - 1 - q)) := by
          rw [hpq]
          exact R_of_not (fun h => hk (hcl.2 h)) (htg.out q pq g1 g2 (hpq ▸ g3) (hpq ▸ g4))
        have hlo2 := search_lo hrng.out hs1.out hs2.out hlo hmi (show q < R0 by omega) hiq hkl
        clear hcl hlo hkl
        replace hlo2 := hide hlo2
        replace hup := hide hup
        replace hr := hide hr
        replace hg := hide hg
        replace hc := hide hc
        replace hpq := hide hpq
        go_upto_region 35 with fail
        refine wp_region_L (by as_aux_lemma => kernel_rfl) ?_
        refine wpE_seg 0 14 (fuel := 0) (by as_aux_lemma => kernel_rfl) (fun d _ _ _ _ h => by cases d <;> exact h) (by as_aux_lemma => kernel_rfl) (by as_aux_lemma => kernel_rfl) ?_
        simp only [List.drop_zero, List.take_succ_cons, List.take_zero]
        iterate 11 (refine wpQE_step (fun K hK => ?_); go_simp; refine hK _ ?_; clear hK K)
        (refine wpQE_step (fun K hK => ?_); go_simp; apply Exists.intro; refine ⟨fun l => ?_, hK _ ?_⟩; (go_at_call 58; refine (hc.out l.w).mono ?_; rintro e w' ⟨rfl, hb⟩; exact ⟨rfl, hb⟩); clear hK K)
        iterate 2 (refine wpQE_step (fun K hK => ?_); go_simp; refine hK _ ?_; clear hK K)
        refine wpQE_nil ?_
        refine wpE_done (by as_aux_lemma => kernel_rfl) (fun w9 hb9 => ?_) 0
        clear p0 p1 p2 p3 q0 q1 q2 q3
        have hr9 := hr.out.below hb9
        have hg9 := grown_trans' _ _ _ hg.out (grown_of_below hb9)
        clear hr hg hb9 hc
        replace hr9 := hide hr9
        replace hg9 := hide hg9
        go_wp2_with fail
        exact ⟨⟨q + 1, j, by omega, by omega, hjb, by first | rfl | go_num, rfl, hlo2.out, hup.out, hr9.out, hg9.out⟩, by simp only [intOf, Int.toNat_natCast]; omega⟩
    · obtain rfl : i = j := by omega
      have i0 : ((i : Int) < (i : Int)) = False := by simp
      obtain ⟨hcut, hmid⟩ := cut_of hs1.out hs2.out htg.out (by omega) (by omega) hrng.out.eq hrng.out.h0 hmi hjb hlo hup
      rw [hNN] at hcut hmid
      obtain ⟨e, he⟩ : ∃ x, NN - i = x := ⟨_, rfl⟩
      rw [he] at hcut hmid
      have wE : IntKind.i64.wrap ((NN : Int) - (i : Int)) = (e : Int) := wrap_nat (by omega) (by omega)
      have k1 := hcut.h1
      have k2 := hcut.h2
      have k3 := hcut.h3
      have k4 := hcut.h4
      obtain ⟨p1a, p1b, p1c⟩ := hcut.pre1
      obtain ⟨p2a, p2b, p2c⟩ := hcut.pre2
      have hfin := fun Z1 Z2 => hcut.fin (Z1 := Z1) (Z2 := Z2)
      rw [hmid] at p1b p1c p2a p2c
      rw [hmid] at hfin
      have hid := rot_id (X := X) k2 k3
      have hmide : mid ≤ e := by omega
      have him : i ≤ mid := by omega
      obtain ⟨Z, hZ⟩ : ∃ Z, rot X i m e = Z := ⟨_, rfl⟩
      have hrt := fun (h1 : i < m) (h2 : m < e) w hh => rotate_any g n c i m e X h1 h2 (by omega) hn cmpV w hh
      unfold cmpV at hrt
      rw [hZ] at p1a p1b p1c p2a p2b p2c hfin hid hrt
      clear hlo hup hcut
      replace hr := hide hr
      replace hg := hide hg
      replace p1a := hide p1a
      replace p1b := hide p1b
      replace p1c := hide p1c
      replace p2a := hide p2a
      replace p2b := hide p2b
      replace p2c := hide p2c
      replace hfin := hide hfin
      replace hid := hide hid
      replace hrt := hide hrt
      replace hZ := hide hZ
      replace hmid := hide hmid
      replace he := hide he
      replace hNN := hide hNN
      replace hpp := hide hpp
      replace hNB := hide hNB
      go_upto_region 39 with fail
      go_cut [185] from 178 to 184 (fun v wx => v = .bool (decide (i < m ∧ m < e)) ∧ wr = wx)
      case first =>
        by_cases hc1 : i < m
        · have j1 : (i : Int) < (m : Int) := by omega
          by_cases hc2 : m < e
          · have j2 : (m : Int) < (e : Int) := by omega
            go_wp2_with fail
            go_meet
            exact ⟨by rw [decide_eq_true (show i < m ∧ m < e from ⟨hc1, hc2⟩)], rfl⟩
          · have j2 : ¬ (m : Int) < (e : Int) := by omega
            go_wp2_with fail
            go_meet
            exact ⟨by rw [decide_eq_false (show ¬ (i < m ∧ m < e) from fun h => hc2 h.2)], rfl⟩
        · have j1 : ¬ (i : Int) < (m : Int) := by omega
          go_wp2_with fail
          go_meet
          exact ⟨by rw [decide_eq_false (show ¬ (i < m ∧ m < e) from fun h => hc1 h.1)], rfl⟩
      case rest =>
      obtain ⟨rfl, rfl⟩ := hcut
      obtain ⟨B1, hB1⟩ : ∃ B, decide (i < m ∧ m < e) = B := ⟨_, rfl⟩
      rw [hB1]
      replace hB1 := hide hB1
      go_upto_if 185 with fail
      go_cut [186] from 187 to 191 (fun _ wx => RowF wx g n Z ∧ w.grownBy wx (some g))
      case first =>
        cases B1
        · have e1 := hid.out (of_decide_eq_false hB1.out)
          replace e1 := hide e1
          go_wp2_with fail
          go_meet
          exact ⟨e1.out ▸ hr.out, hg.out⟩
        · obtain ⟨hc1, hc2⟩ := of_decide_eq_true hB1.out
          have q := hrt.out hc1 hc2 wr hr.out
          clear hrt
          replace q := hide q
          go_wp2_with fail
          refine q.out.mono ?_
          rintro e' w5 ⟨rfl, h5, g5⟩
          have hg5 := grown_trans' _ _ _ hg.out g5
          replace h5 := hide h5
          replace hg5 := hide hg5
          go_wp2_with fail
          go_meet
          exact ⟨h5.out, hg5.out⟩
      case rest =>
      clear hr hg hrt hid
      obtain ⟨hr, hg⟩ := hcut
      replace hr := hide hr
      replace hg := hide hg
      go_upto_region 41 with fail
      go_cut [199] from 192 to 198 (fun v wx => v = .bool (decide (a < i ∧ i < mid)) ∧ wc = wx)
      case first =>
        by_cases hc1 : a < i
        · have j1 : (a : Int) < (i : Int) := by omega
          by_cases hc2 : i < mid
          · have j2 : (i : Int) < (mid : Int) := by omega
            go_wp2_with fail
            go_meet
            exact ⟨by rw [decide_eq_true (show a < i ∧ i < mid from ⟨hc1, hc2⟩)], rfl⟩
          · have j2 : ¬ (i : Int) < (mid : Int) := by omega
            go_wp2_with fail
            go_meet
            exact ⟨by rw [decide_eq_false (show ¬ (a < i ∧ i < mid) from fun h => hc2 h.2)], rfl⟩
        · have j1 : ¬ (a : Int) < (i : Int) := by omega
          go_wp2_with fail
          go_meet
          exact ⟨by rw [decide_eq_false (show ¬ (a < i ∧ i < mid) from fun h => hc1 h.1)], rfl⟩
      case rest =>
      obtain ⟨rfl, rfl⟩ := hcut
      obtain ⟨B2, hB2⟩ : ∃ B, decide (a < i ∧ i < mid) = B := ⟨_, rfl⟩
      rw [hB2]
      replace hB2 := hide hB2
      obtain ⟨wv, hwv⟩ : ∃ wv, wc = wv := ⟨_, rfl⟩
      rw [hwv] at hr hg ⊢
      clear hwv
      go_upto_if 199 with fail
      go_cut [200] from 201 to 205 (fun _ wx => ∃ Z1, RowF wx g n Z1 ∧ PermOn a mid Z Z1 ∧ Srt Z1 a mid ∧ w.grownBy wx (some g))
      case first =>
        cases B2
        · have e1 := srt_skip k1 him p1a.out p1b.out (of_decide_eq_false hB2.out)
          replace e1 := hide e1
          go_wp2_with fail
          go_meet
          exact ⟨Z, hr.out, PermOn.refl _ _ _, e1.out, hg.out⟩
        · obtain ⟨hc1, hc2⟩ := of_decide_eq_true hB2.out
          have q := ih.out a i mid Z (by omega) hc1 hc2 (by omega) p1a.out p1b.out p1c.out wv hr.out
          clear ih
          replace q := hide q
          go_wp2_with fail
          refine q.out.mono ?_
          rintro e' w5 ⟨rfl, Y, h5, hp5, hs5, g5⟩
          have hg5 := grown_trans' _ _ _ hg.out g5
          replace h5 := hide h5
          replace hg5 := hide hg5
          replace hp5 := hide hp5
          replace hs5 := hide hs5
          go_wp2_with fail
          go_meet
          exact ⟨Y, h5.out, hp5.out, hs5.out, hg5.out⟩
      case rest =>
      clear hr hg
      obtain ⟨Z1, hr, hp1, hz1, hg⟩ := hcut
      have r2a : Srt Z1 mid e := p2a.out.congr fun k h1 h2 => hp1.out k (by omega)
      have r2b : Srt Z1 e b := p2b.out.congr fun k h1 h2 => hp1.out k (by omega)
      have r2c : Tg Z1 mid e b := fun x y h1 h2 h3 h4 => by
        rw [hp1.out x (by omega), hp1.out y (by omega)]
        exact p2c.out x y h1 h2 h3 h4
      clear p1a p1b p1c p2a p2b p2c
      replace hr := hide hr
      replace hg := hide hg
      replace hp1 := hide hp1
      replace hz1 := hide hz1
      replace r2a := hide r2a
      replace r2b := hide r2b
      replace r2c := hide r2c
      by_cases hc1 : mid < e
      · have j1 : (mid : Int) < (e : Int) := by omega
        by_cases hc2 : e < b
        · have j2 : (e : Int) < (b : Int) := by omega
          have q := ih.out mid e b Z1 (by omega) hc1 hc2 hb r2a.out r2b.out r2c.out wc hr.out
          clear ih
          replace q := hide q
          go_wp2_with fail
          refine q.out.mono ?_
          rintro e' w5 ⟨rfl, Y, h5, hp5, hs5, g5⟩
          have hg5 := grown_trans' _ _ _ hg.out g5
          obtain ⟨f1, f2⟩ := hfin.out Z1 Y hp1.out hz1.out hp5 hs5
          clear hp5 hs5 g5 q
          replace h5 := hide h5
          replace hg5 := hide hg5
          replace f1 := hide f1
          replace f2 := hide f2
          go_wp2_with fail
          refine bodyPost_end (v := .tuple #[]) (by simp [results, Tryd.results74, go_sem]) rfl ⟨rfl, Y, h5.out, f2.out, f1.out, hg5.out⟩
        · have j2 : ¬ (e : Int) < (b : Int) := by omega
          have e1 := srt_skip hmide k4 r2a.out r2b.out (fun h => hc2 h.2)
          obtain ⟨f1, f2⟩ := hfin.out Z1 Z1 hp1.out hz1.out (PermOn.refl _ _ _) e1
          replace f1 := hide f1
          replace f2 := hide f2
          replace e1 := hide e1
          go_wp2_with fail
          refine bodyPost_end (v := .tuple #[]) (by simp [results, Tryd.results74, go_sem]) rfl ⟨rfl, Z1, hr.out, f2.out, f1.out, hg.out⟩
      · have j1 : ¬ (mid : Int) < (e : Int) := by omega
        have e1 := srt_skip hmide k4 r2a.out r2b.out (fun h => hc1 h.1)
        obtain ⟨f1, f2⟩ := hfin.out Z1 Z1 hp1.out hz1.out (PermOn.refl _ _ _) e1
        replace f1 := hide f1
        replace f2 := hide f2
        replace e1 := hide e1
        go_wp2_with fail
        refine bodyPost_end (v := .tuple #[]) (by simp [results, Tryd.results74, go_sem]) rfl ⟨rfl, Z1, hr.out, f2.out, f1.out, hg.out⟩
theorem symMerge_any (g n c : Nat) (hn : n ≤ 1099511627776) : ∀ d, SymSaid g n c d
  | 0 => fun a m b X h1 h2 h3 => by omega
  | d + 1 => fun a m b X h1 h2 h3 hb hs1 hs2 htg w h => by
    have ih := symMerge_any g n c hn d
    by_cases e1 : m = a + 1
    · subst e1
      exact symA g n c hn a b X h3 hb hs2 htg w h
    · by_cases e2 : b = m + 1
      · subst e2
        exact symB g n c hn a m X h2 e1 hb hs1 htg w h
      · exact symC g n c hn a m b X d ih h1 h2 h3 hb e1 e2 hs1 hs2 htg w h
end Sort06
end Go.Proofs.YtccmbnaakdffaaaDoor
/- slices: stable, on a row of at most 40 prefixes; SortStableFunc. Conditions: the tags rise. -/
namespace Go.Proofs.YtccmbnaakdffaaaDoor
open Go.RowKit Go.ChangeShapes Go.WideShapes Go.ChangeAt Go.Deep
namespace Sort06
theorem tg_perm {X Y1 Y2 : Nat → El} {k n : Nat} (hkn : k ≤ n) (hu : Up X 0 n) (p1 : PermOn 0 k X Y1) (p2 : PermOn k n Y1 Y2) : Tg Y2 0 k n := by
  intro i j hi hik hkj hjn
  rw [p2.out i (by omega)]
  refine p2.all (P := fun y => (Y1 i).t < y.t) (fun l hl1 hl2 => ?_) j hkj hjn
  rw [p1.out l (by omega)]
  exact p1.all (P := fun x => x.t < (X l).t) (fun q hq1 hq2 => hu q l (by omega) (by omega) hl2) i hi hik
theorem Up.sub {X Y : Nat → El} {n k : Nat} (hu : Up X 0 n) (p1 : PermOn 0 k X Y) : Up Y k n := fun i j hi hij hj => by
  rw [p1.out i (by omega), p1.out j (by omega)]
  exact hu i j (by omega) hij hj
set_option maxRecDepth 20000 in
set_option maxHeartbeats 8000000 in
theorem stable_any (g n c : Nat) (X : Nat → El) (hn : n ≤ 40) (hu : Up X 0 n) (w : World) (h : RowF w g n X) :
    Calls Tryd.prog 67 #[.slice (some ⟨g, 0, none⟩) n c, .int .i64 (n : Int), cmpV] w fun e w' => e = .returned (.tuple #[]) ∧ SymEnd g n 0 n X w w' := by
  have qi := fun (a b : Nat) (X : Nat → El) (h1 : a ≤ b) (h2 : b ≤ n) (hu : Up X a b) (w : World) (h : RowF w g n X) => insertion_any g n c a b X h1 h2 (by omega) hu w h
  have qs := fun (a m b : Nat) (X : Nat → El) (h1 : a < m) (h2 : m < b) (h3 : b ≤ n) (s1 : Srt X a m) (s2 : Srt X m b) (tg : Tg X a m b) (w : World) (h : RowF w g n X) => symMerge_any g n c (by omega) (b - a) a m b X (Nat.le_refl _) h1 h2 h3 s1 s2 tg w h
  unfold cmpV at qi qs ⊢
  by_cases h20 : n < 20
  · have i1 : ¬ (20 : Int) ≤ (n : Int) := by omega
    have i2 : ¬ (20 : Int) < (n : Int) := by omega
    have q := qi 0 n X (by omega) (Nat.le_refl _) hu w h
    replace q := hide q
    go_enter Tryd.func67, Tryd.ntmps67
    go_wp2_with fail
    refine wp_loop_rounds 1 ?_
    rw [rounds_succ]
    go_wp2_with fail
    refine q.out.mono ?_
    rintro e w2 ⟨rfl, Y, hr, hp, hs, hg⟩
    replace hr := hide hr
    replace hp := hide hp
    replace hs := hide hs
    replace hg := hide hg
    go_wp2_with fail
    refine wp_loop_rounds 1 ?_
    rw [rounds_succ]
    go_wp2_with fail
    refine bodyPost_end (v := .tuple #[]) (by simp [results, Tryd.results67, go_sem]) rfl ⟨rfl, Y, hr.out, hp.out, hs.out, hg.out⟩
  · have q := qi 0 20 X (by omega) (by omega) (fun i j h1 h2 h3 => hu i j h1 h2 (by omega)) w h
    by_cases h40 : n = 40
    · subst h40
      replace q := hide q
      replace hu := hide hu
      replace qi := hide qi
      replace qs := hide qs
      go_enter Tryd.func67, Tryd.ntmps67
      go_wp2_with fail
      refine wp_loop_rounds 3 ?_
      rw [rounds_succ]
      go_wp2_with fail
      refine q.out.mono ?_
      rintro e w2 ⟨rfl, Y1, hr1, hp1, hs1, hg1⟩
      have q2 := qi.out 20 40 Y1 (by omega) (by omega) (hu.out.sub hp1) w2 hr1
      replace q2 := hide q2
      replace hp1 := hide hp1
      replace hs1 := hide hs1
      replace hg1 := hide hg1
      go_wp2_with fail
      rw [rounds_succ]
      go_wp2_with fail
      refine q2.out.mono ?_
      rintro e w3 ⟨rfl, Y2, hr2, hp2, hs2, hg2⟩
      have hg3 := grown_trans' _ _ _ hg1.out hg2
      have q3 := qi.out 40 40 Y2 (by omega) (by omega) (fun i j h1 h2 h3 => by omega) w3 hr2
      clear q q2
      replace q3 := hide q3
      replace hp2 := hide hp2
      replace hs2 := hide hs2
      replace hg3 := hide hg3
      go_wp2_with fail
      rw [rounds_succ]
      go_wp2_with fail
      refine q3.out.mono ?_
      rintro e w4 ⟨rfl, Y3, hr3, hp3, -, hg4⟩
      have hg5 := grown_trans' _ _ _ hg3.out hg4
      have e3 : ∀ k, Y3 k = Y2 k := fun k => hp3.out k (by omega)
      have tg := tg_perm (show 20 ≤ 40 by omega) hu.out hp1.out hp2.out
      have q4 := qs.out 0 20 40 Y3 (by omega) (by omega) (by omega) (hs1.out.congr fun k h1 h2 => (e3 k).trans (hp2.out.out k (by omega))) (hs2.out.congr fun k h1 h2 => e3 k) (fun i j h1 h2 h3 h4 => by rw [e3, e3]; exact tg i j h1 h2 h3 h4) w4 hr3
      have hp4 : PermOn 0 40 X Y3 := by
        have e : Y3 = Y2 := funext e3
        rw [e]
        exact (hp1.out.wide (Nat.le_refl _) (by omega) (by omega)).trans (hp2.out.wide (by omega) (by omega) (by omega))
      clear q3 e3 tg hp3 hg4
      replace q4 := hide q4
      replace hg5 := hide hg5
      replace hp4 := hide hp4
      go_wp2_with fail
      refine wp_loop_rounds 2 ?_
      rw [rounds_succ]
      go_wp2_with fail
      refine wp_loop_rounds 2 ?_
      rw [rounds_succ]
      go_wp2_with fail
      refine q4.out.mono ?_
      rintro e w5 ⟨rfl, Y4, hr4, hp5, hs5, hg6⟩
      have hg7 := grown_trans' _ _ _ hg5.out hg6
      have hp6 := hp4.out.trans hp5
      clear hg6 hp5 q4
      replace hr4 := hide hr4
      replace hp6 := hide hp6
      replace hs5 := hide hs5
      replace hg7 := hide hg7
      go_wp2_with fail
      rw [rounds_succ]
      go_wp2_with fail
      rw [rounds_succ]
      go_wp2_with fail
      refine bodyPost_end (v := .tuple #[]) (by simp [results, Tryd.results67, go_sem]) rfl ⟨rfl, Y4, hr4.out, hp6.out, hs5.out, hg7.out⟩
    · have i1 : (20 : Int) ≤ (n : Int) := by omega
      have i2 : ¬ (40 : Int) ≤ (n : Int) := by omega
      have i2b : ¬ (40 : Int) < (n : Int) := by omega
      have hn40 : n < 40 := by omega
      have h20' : 20 ≤ n := by omega
      replace q := hide q
      replace hu := hide hu
      replace qi := hide qi
      replace qs := hide qs
      go_enter Tryd.func67, Tryd.ntmps67
      go_wp2_with fail
      refine wp_loop_rounds 2 ?_
      rw [rounds_succ]
      go_wp2_with fail
      refine q.out.mono ?_
      rintro e w2 ⟨rfl, Y1, hr1, hp1, hs1, hg1⟩
      have q2 := qi.out 20 n Y1 h20' (Nat.le_refl _) (hu.out.sub hp1) w2 hr1
      replace q2 := hide q2
      replace hp1 := hide hp1
      replace hs1 := hide hs1
      replace hg1 := hide hg1
      go_wp2_with fail
      rw [rounds_succ]
      go_wp2_with fail
      refine q2.out.mono ?_
      rintro e w3 ⟨rfl, Y2, hr2, hp2, hs2, hg2⟩
      have hg3 := grown_trans' _ _ _ hg1.out hg2
      have hp4 : PermOn 0 n X Y2 := (hp1.out.wide (Nat.le_refl _) (by omega) h20').trans (hp2.wide (by omega) h20' (Nat.le_refl _))
      clear q q2 hg2
      by_cases hne : 20 < n
      · have i3 : (20 : Int) < (n : Int) := by omega
        have tg := tg_perm h20' hu.out hp1.out hp2
        have q4 := qs.out 0 20 n Y2 (by omega) hne (Nat.le_refl _) (hs1.out.congr fun k h1 h2 => hp2.out k (by omega)) hs2 tg w3 hr2
        clear tg hp2 hs2
        replace q4 := hide q4
        replace hg3 := hide hg3
        replace hp4 := hide hp4
        go_wp2_with fail
        refine wp_loop_rounds 2 ?_
        rw [rounds_succ]
        go_wp2_with fail
        refine wp_loop_rounds 1 ?_
        rw [rounds_succ]
        go_wp2_with fail
        refine q4.out.mono ?_
        rintro e w5 ⟨rfl, Y4, hr4, hp5, hs5, hg6⟩
        have hg7 := grown_trans' _ _ _ hg3.out hg6
        have hp6 := hp4.out.trans hp5
        clear hg6 hp5 q4
        replace hr4 := hide hr4
        replace hp6 := hide hp6
        replace hs5 := hide hs5
        replace hg7 := hide hg7
        go_wp2_with fail
        rw [rounds_succ]
        go_wp2_with fail
        refine bodyPost_end (v := .tuple #[]) (by simp [results, Tryd.results67, go_sem]) rfl ⟨rfl, Y4, hr4.out, hp6.out, hs5.out, hg7.out⟩
      · have i3 : ¬ (20 : Int) < (n : Int) := by omega
        have hs3 : Srt Y2 0 n := by
          have e : n = 20 := by omega
          rw [e]
          exact hs1.out.congr fun k h1 h2 => hp2.out k (by omega)
        clear hp2 hs2
        replace hr2 := hide hr2
        replace hg3 := hide hg3
        replace hp4 := hide hp4
        replace hs3 := hide hs3
        go_wp2_with fail
        refine wp_loop_rounds 1 ?_
        rw [rounds_succ]
        go_wp2_with fail
        refine bodyPost_end (v := .tuple #[]) (by simp [results, Tryd.results67, go_sem]) rfl ⟨rfl, Y2, hr2.out, hp4.out, hs3.out, hg3.out⟩
set_option maxRecDepth 20000 in
set_option maxHeartbeats 8000000 in
theorem sortStable_any (g n c : Nat) (X : Nat → El) (hn : n ≤ 40) (hu : Up X 0 n) (w : World) (h : RowF w g n X) :
    Calls Tryd.prog 57 #[.slice (some ⟨g, 0, none⟩) n c, cmpV] w fun e w' => e = .returned (.tuple #[]) ∧ SymEnd g n 0 n X w w' := by
  have q := stable_any g n c X hn hu w h
  unfold cmpV at q ⊢
  replace q := hide q
  go_enter Tryd.func57, Tryd.ntmps57
  go_wp2_with fail
  refine q.out.mono ?_
  rintro e w2 ⟨rfl, hS⟩
  replace hS := hide hS
  go_wp2_with fail
  refine bodyPost_end (v := .tuple #[]) (by simp [results, Tryd.results57, go_sem]) rfl ⟨rfl, hS.out⟩
end Sort06
end Go.Proofs.YtccmbnaakdffaaaDoor
/- pfx: the law's awake. Condition: the cell of bytealg.MaxLen. -/
namespace Go.Proofs.YtccmbnaakdffaaaDoor
open Go.RowKit Go.ChangeShapes Go.WideShapes Go.ChangeAt Go.Deep
namespace Addr05
theorem pparse1 (w : World) (hm : MaxAt w) : Calls Tryd.prog 26 #[.string ⟨#[49, 48, 46, 48, 46, 48, 46, 48, 47, 56]⟩] w fun e w' => e = .returned (.tuple #[.agg #[.bool false, .int .u64 0, .int .u64 167772160, .int .i64 8], .int .i64 0]) ∧ Below w.heap.size w w' := by
  have h := pParse_any [49, 48, 46, 48, 46, 48, 46, 48, 47, 56] (by decide) w hm
  rw [show pfxF [49, 48, 46, 48, 46, 48, 46, 48, 47, 56] = some (⟨false, 0, 167772160⟩, 8) by kernel_rfl] at h
  exact h
theorem pparse2 (w : World) (hm : MaxAt w) : Calls Tryd.prog 26 #[.string ⟨#[49, 48, 46, 48, 46, 48, 46, 49, 47, 56]⟩] w fun e w' => e = .returned (.tuple #[.agg #[.bool false, .int .u64 0, .int .u64 0, .int .i64 0], .int .i64 18]) ∧ Below w.heap.size w w' := by
  have h := pParse_any [49, 48, 46, 48, 46, 48, 46, 49, 47, 56] (by decide) w hm
  rw [show pfxF [49, 48, 46, 48, 46, 48, 46, 49, 47, 56] = none by kernel_rfl] at h
  exact h
set_option maxRecDepth 20000 in
set_option maxHeartbeats 8000000 in
theorem pawake_any (w : World) (hm : MaxAt w) : Calls Tryd.prog 29 #[] w fun e w' => e = .returned (.bool true) ∧ Below w.heap.size w w' := by
  have h1 := pparse1 w hm
  have h2 := pparse2
  replace h1 := hide h1
  replace h2 := hide h2
  replace hm := hide hm
  go_enter Tryd.func29, Tryd.ntmps29
  go_upto_region 1 with fail
  apply wp_region_lit
  refine wpList_plain rfl fun K hK => ?_
  go_simp
  refine (h1.out).mono ?_
  rintro e w1 ⟨rfl, hb1⟩
  have hm1 := hm.out.below hb1
  replace hb1 := hide hb1
  replace hm1 := hide hm1
  go_simp
  refine hK _ _ ?_
  clear hK K
  iterate 3 (refine wpList_plain rfl fun K hK => ?_; go_simp; refine hK _ _ ?_; clear hK K)
  refine wpl_new rfl rfl 45 _ (alloc_pfx _ rfl) 1 rfl (.tmp 7) rfl _ (fun _ => rfl) (fun _ => rfl) rfl (by kernel_rfl) (p_one false 0 167772160 8) ?_
  intro w2 hg2 hb2 hz2
  have hB2 := hb1.out.trans (hb2.mono hb1.out.size)
  have hm2 := hm1.out.below hb2
  clear hb1 hb2 hm1
  replace hg2 := hide hg2
  replace hB2 := hide hB2
  replace hm2 := hide hm2
  iterate 1 (refine wpList_plain rfl fun K hK => ?_; go_simp; refine hK _ _ ?_; clear hK K)
  refine wpList_nil ?_
  go_simp
  go_upto_region 2 with fail
  apply wp_region_lit
  refine wpList_plain rfl fun K hK => ?_
  go_simp
  refine (h2.out w2 hm2.out).mono ?_
  rintro e w3 ⟨rfl, hb3⟩
  have hg3 := blk_below hb3 hz2 hg2.out
  have hB3 := hB2.out.trans (hb3.mono hB2.out.size)
  have hz3 := hb3.size
  clear hb3 hg2 hB2 hm2 h1 h2
  replace hg3 := hide hg3
  replace hB3 := hide hB3
  go_simp
  refine hK _ _ ?_
  clear hK K
  iterate 3 (refine wpList_plain rfl fun K hK => ?_; go_simp; refine hK _ _ ?_; clear hK K)
  refine wpl_new rfl rfl 45 _ (alloc_pfx _ rfl) 3 rfl (.tmp 11) rfl _ (fun _ => rfl) (fun _ => rfl) rfl (by kernel_rfl) (p_one false 0 0 0) ?_
  intro w4 hg4 hb4 hz4
  have hg5 := blk_below hb4 (by omega) hg3.out
  have hB4 := hB3.out.trans (hb4.mono hB3.out.size)
  have hz5 := hb4.size
  clear hb4 hB3 hg3 hg4
  replace hB4 := hide hB4
  iterate 1 (refine wpList_plain rfl fun K hK => ?_; go_simp; refine hK _ _ ?_; clear hK K)
  refine wpList_nil ?_
  go_simp
  have hcl := fun l : Later w4 => blk_cell (blk_below l.hb (by omega) hg5)
  have q := fun l : Later w4 => V4_any 167772160 (by omega) l.w
  replace q := hide q
  replace hg5 := hide hg5
  go_upto_region 3 with fail
  refine wp_region_L (by as_aux_lemma => kernel_rfl) ?_
  refine wpE_seg 0 13 (fuel := 0) (by as_aux_lemma => kernel_rfl) (fun d _ _ _ _ h => by cases d <;> exact h) (by as_aux_lemma => kernel_rfl) (by as_aux_lemma => kernel_rfl) ?_
  simp only [List.drop_zero, List.take_succ_cons, List.take_zero]
  iterate 1 (refine wpQE_step (fun K hK => ?_); go_simp; refine hK _ ?_; clear hK K)
  (refine wpQE_step (fun K hK => ?_); go_simp; apply Exists.intro; refine ⟨fun l => ?_, hK _ ?_⟩; (go_at_call 19; refine (q.out l).mono ?_; rintro e w' ⟨rfl, hb⟩; exact ⟨rfl, hb⟩); clear hK K)
  iterate 11 (refine wpQE_step (fun K hK => ?_); go_simp; refine hK _ ?_; clear hK K)
  refine wpQE_nil ?_
  refine wpE_done (by as_aux_lemma => kernel_rfl) (fun w6 hb6 => ?_) 0
  have hB6 := hB4.out.trans (hb6.mono hB4.out.size)
  clear hb6 hcl
  replace hB6 := hide hB6
  go_wp2_with fail
  go_ret
  exact ⟨rfl, hB6.out⟩
end Addr05
end Go.Proofs.YtccmbnaakdffaaaDoor
/- pfx: the law's right, and has. Conditions: numbers of 64 bits. -/
namespace Go.Proofs.YtccmbnaakdffaaaDoor
open Go.RowKit Go.ChangeShapes Go.WideShapes Go.ChangeAt Go.Deep
namespace Addr05
theorem ints_ptr {w : World} {B n : Nat} {A : Option Addr} {xs : List Int} (h : IsV w B 1 A n (xs.map (Value.int .i64))) (hn : 0 < n) : ∃ b off, A = some ⟨b, off, none⟩ ∧ b < B ∧ ∀ j x, xs[j]? = some x → w.cell? ⟨b, off + j, none⟩ = some (.int .i64 x) := by
  have hl : xs.length = n := by simpa using h.1
  obtain ⟨b, off, e, hb, hc⟩ := h.2 (by omega)
  refine ⟨b, off, e, hb, fun j x hj => ?_⟩
  obtain ⟨hj', rfl⟩ := List.getElem?_eq_some_iff.1 hj
  have := hc j (by rw [List.length_map]; exact hj')
  rw [this]
  simp
theorem rightP_bits (a : Adr) (ho : a.ok) (hr : a.right) (k : Nat) (h : k ≤ a.w) : a.rightP k = true ↔ ∀ j, k ≤ j → j < a.w → a.bit j = 0 := by
  unfold Adr.rightP
  rw [decide_eq_true_eq, ← a.mask_eq ho hr k h]
  exact ⟨fun h => h.2.2, fun h' => ⟨hr, h, h'⟩⟩
set_option maxRecDepth 20000 in
set_option maxHeartbeats 8000000 in
theorem pright_any (a : Adr) (ho : a.ok) (i : Int) (w : World) :
    Calls Tryd.prog 25 #[.agg (pArr a i)] w fun e w' => e = .returned (.bool (rightP a i)) ∧ Below w.heap.size w w' := by
  have hn1 := right_no1 a i
  have hn2 := right_no2 a i
  have hn3 := right_no3 a i
  have hw128 := a.w_le
  have hw32 : 0 < a.w := by unfold Adr.w; split <;> omega
  have hR := fun w => Right_any a.v6 a.hi a.lo w
  have hri := rightB_iff a
  have hBi := bits_any a ho
  have hbl := a.bits_length
  have hbg := a.bits_get
  have hrb := fun hr k h => rightP_bits a ho hr k h
  have hnat := rightP_nat a
  obtain ⟨RB, hRB⟩ : ∃ x, rightB a.v6 a.hi a.lo = x := ⟨_, rfl⟩
  rw [hRB] at hn1 hR hri
  obtain ⟨BS, hBS⟩ : ∃ x, a.bits = x := ⟨_, rfl⟩
  rw [hBS] at hBi hbl hbg
  obtain ⟨W, hW⟩ : ∃ W, a.w = W := ⟨_, rfl⟩
  rw [hW] at hn3 hbl hbg hrb hw128 hw32
  obtain ⟨RP, hRP⟩ : ∃ x, rightP a i = x := ⟨_, rfl⟩
  rw [hRP] at hn1 hn2 hn3 ⊢
  unfold pArr
  obtain ⟨f, hf⟩ : ∃ f, a.bit = f := ⟨_, rfl⟩
  rw [hf] at hbg hrb
  have hrp : ∀ k : Nat, RB = true → i = (k : Int) → k ≤ W → (RP = true ↔ ∀ j, k ≤ j → j < W → f j = 0) := by
    intro k h1 h2 h3
    rw [← hrb (hri.1 h1) k h3, ← hnat, ← h2, hRP]
  clear hrb hri hnat hW hRP hRB hf hBS ho
  obtain ⟨v, hi, lo⟩ := a
  dsimp only at hR hBi ⊢
  obtain ⟨w1, hw1⟩ : ∃ w1, w.alloc (.cells #[.bool v, .int .u64 (hi : Int), .int .u64 (lo : Int), .int .i64 i] 45) = w1 := ⟨_, rfl⟩
  have hB : Below w.heap.size w w1 := hw1 ▸ (Below.refl _ _).alloc (Nat.le_refl _) _
  have hg : w1.heap[w.heap.size]? = some (.cells #[.bool v, .int .u64 (hi : Int), .int .u64 (lo : Int), .int .i64 i] 45 (0, 0)) := hw1 ▸ blk_new _ _ _
  replace hB := hide hB
  replace hg := hide hg
  have hcg := blk_cell hg.out
  replace hR := hide hR
  replace hBi := hide hBi
  replace hbg := hide hbg
  replace hrp := hide hrp
  replace hn1 := hide hn1
  replace hn2 := hide hn2
  replace hn3 := hide hn3
  go_enter Tryd.func25, Tryd.ntmps25
  go_wp2_with fail
  clear hw1
  refine (hBi.out w1).mono ?_
  rintro e w2 ⟨vb, rfl, hown, hb2⟩
  replace hB := hide (hB.out.trans (hb2.mono hB.out.size))
  replace hg := hide (blk_on hb2 hg.out)
  clear hb2
  obtain ⟨A, c, rfl, hc, hcm, hv⟩ := hown.form
  rw [hbl] at hc hv ⊢
  clear hown hcg hBi
  replace hv := hide hv
  have hcg := blk_cell hg.out
  go_wp2_with fail
  refine (hR.out w2).mono ?_
  rintro e w3 ⟨rfl, hb3⟩
  replace hB := hide (hB.out.trans (hb3.mono hB.out.size))
  replace hg := hide (blk_on hb3 hg.out)
  replace hv := hide (hv.out.on hb3)
  clear hb3
  clear hcg hR
  have hcg := blk_cell hg.out
  cases RB
  · obtain rfl : RP = false := hn1.out rfl
    clear hn1 hn2 hn3 hrp
    go_wp2_with fail
    go_ret
    exact ⟨rfl, hB.out⟩
  by_cases h0 : i < 0
  · have t0 : decide (i < 0) = true := decide_eq_true h0
    obtain rfl : RP = false := hn2.out h0
    clear hn1 hn2 hn3 hrp
    go_wp2_with fail
    go_ret
    exact ⟨rfl, hB.out⟩
  have t0 : decide (i < 0) = false := decide_eq_false h0
  by_cases hw : (W : Int) < i
  · have t1 : decide ((W : Int) < i) = true := decide_eq_true hw
    obtain rfl : RP = false := hn3.out (by omega) hw
    clear hn1 hn2 hn3 hrp
    go_wp2_with fail
    go_ret
    exact ⟨rfl, hB.out⟩
  have t1 : decide ((W : Int) < i) = false := decide_eq_false hw
  obtain ⟨k0, rfl⟩ : ∃ k0 : Nat, i = (k0 : Int) := ⟨i.toNat, by omega⟩
  have hk0 : k0 ≤ W := by omega
  have hrp0 := hrp.out k0 rfl rfl hk0
  obtain ⟨b, off, rfl, hb, hcells⟩ := ints_ptr hv.out hw32
  have t2 : ¬ W < k0 := by omega
  clear hn1 hn2 hn3 hrp h0 hw
  replace hrp0 := hide hrp0
  replace hcells := hide hcells
  go_wp2_with fail
  go_loopw [4] (fun iv wr => ∃ k : Nat, k0 ≤ k ∧ k ≤ W ∧ iv = .int .i64 (k : Int) ∧ (∀ j, k0 ≤ j → j < k → f j = 0) ∧ w3 = wr) (fun iv _ => W - (intOf iv).toNat)
  case atStart => exact ⟨k0, by omega, hk0, rfl, fun j h1 h2 => by omega, rfl⟩
  case round =>
    obtain ⟨k, hk1, hk2, rfl, hall, rfl⟩ := hrel
    by_cases hkW : k < W
    · have i1 : (k : Int) < (W : Int) := by omega
      have i2 : (0 : Int) ≤ (k : Int) := by omega
      have hck := hcells.out k _ (hbg.out k hkW)
      obtain ⟨y, hy⟩ : ∃ y, f k = y := ⟨_, rfl⟩
      rw [hy] at hck
      clear hcg
      by_cases hy0 : y = 0
      · subst hy0
        have hall' : ∀ j, k0 ≤ j → j < k + 1 → f j = 0 := fun j h1 h2 => by
          rcases Nat.lt_or_ge j k with h | h
          · exact hall j h1 h
          · obtain rfl : j = k := by omega
            exact hy
        replace hall := hide hall
        replace hall' := hide hall'
        replace hy := hide hy
        go_wp2_with fail
        exact ⟨⟨k + 1, by omega, by omega, by first | rfl | go_num, hall'.out, by first | rfl | trivial⟩, by simp only [intOf]; omega⟩
      · have t3 : ((y : Int) != 0) = true := by rw [bne_iff_ne]; omega
        obtain rfl : RP = false := by
          cases RP
          · rfl
          · exact absurd (hrp0.out.1 rfl k hk1 hkW) (by rw [hy]; exact hy0)
        replace hall := hide hall
        replace hy := hide hy
        go_wp2_with fail
        go_ret
        exact ⟨rfl, hB.out⟩
    · obtain rfl : k = W := by omega
      have i1 : ((k : Int) < (k : Int)) = False := by simp
      obtain rfl : RP = true := hrp0.out.2 fun j h1 h2 => hall j h1 h2
      clear hcg hk0 hk2
      replace hall := hide hall
      replace hkW := hide hkW
      go_wp2_with fail
      go_ret
      exact ⟨rfl, hB.out⟩
end Addr05
end Go.Proofs.YtccmbnaakdffaaaDoor
/- pfx: Has, and the law's has. Conditions: numbers of 64 bits. -/
namespace Go.Proofs.YtccmbnaakdffaaaDoor
open Go.RowKit Go.ChangeShapes Go.WideShapes Go.ChangeAt Go.Deep
namespace Addr05
/-- Has an address a prefix? -/
def hasP (p : Adr) (i : Int) (a : Adr) : Bool := rightP p i && (a.v6 == p.v6) && decide (a.mask (clampN a i) = p)
theorem has_no1 (p : Adr) (i : Int) (a : Adr) (h : rightP p i = false) : hasP p i a = false := by unfold hasP; rw [h]; rfl
theorem has_no2 (p : Adr) (i : Int) (a : Adr) (h : (a.v6 == p.v6) = false) : hasP p i a = false := by unfold hasP; rw [h]; simp
theorem has_is (p : Adr) (i : Int) (a : Adr) (h1 : rightP p i = true) (h2 : (a.v6 == p.v6) = true) : hasP p i a = decide (a.mask (clampN a i) = p) := by unfold hasP; rw [h1, h2]; rfl
theorem rightP_facts (p : Adr) (k : Nat) (h : rightP p (k : Int) = true) : p.right ∧ k ≤ p.w ∧ p.mask k = p := by
  rw [rightP_nat] at h
  exact rightP_w p k h
theorem has_bits (p : Adr) (k : Nat) (a : Adr) (hp : p.ok) (ha : a.ok) (har : a.right) (h1 : rightP p (k : Int) = true) (h2 : (a.v6 == p.v6) = true) : hasP p (k : Int) a = true ↔ ∀ j, j < k → p.bit j = a.bit j := by
  obtain ⟨hr, hk, hm⟩ := rightP_facts p k h1
  have h6 : a.v6 = p.v6 := by simpa using h2
  have hw : a.w = p.w := by unfold Adr.w; rw [h6]
  have e : clampN a (k : Int) = k := by unfold clampN; omega
  rw [has_is p _ a h1 h2, decide_eq_true_eq, e]
  exact a.mask_eq2 p ha har hp hr h6 k (by omega) hm
set_option maxRecDepth 20000 in
set_option maxHeartbeats 8000000 in
theorem pHas_any (p : Adr) (hop : p.ok) (i : Int) (a : Adr) (hoa : a.ok) (w : World) :
    Calls Tryd.prog 33 #[.agg (pArr p i), .agg #[.bool a.v6, .int .u64 (a.hi : Int), .int .u64 (a.lo : Int)]] w fun e w' => e = .returned (.bool (hasP p i a)) ∧ Below w.heap.size w w' := by
  have hn1 := has_no1 p i a
  have hn2 := has_no2 p i a
  have his := has_is p i a
  have hR := fun w => pRight_any p hop i w
  have hMask := Mask_any a hoa i
  have hmv := a.mask_v6 (clampN a i)
  obtain ⟨⟨mv, mh, ml⟩, hM⟩ : ∃ M, a.mask (clampN a i) = M := ⟨_, rfl⟩
  rw [hM] at hMask his hmv
  obtain ⟨HP, hHP⟩ : ∃ x, hasP p i a = x := ⟨_, rfl⟩
  rw [hHP] at hn1 hn2 his ⊢
  obtain ⟨RP, hRP⟩ : ∃ x, rightP p i = x := ⟨_, rfl⟩
  rw [hRP] at hn1 his hR
  unfold pArr at hR ⊢
  obtain ⟨pv, ph, pl⟩ := p
  obtain ⟨v, hi, lo⟩ := a
  clear hM hRP hop hoa hHP
  dsimp only at hn1 hn2 his hMask hmv hR ⊢
  subst hmv
  unfold Adr.arr at hMask
  dsimp only at hMask
  obtain ⟨w1, hw1⟩ : ∃ w1, w.alloc (.cells #[.bool pv, .int .u64 (ph : Int), .int .u64 (pl : Int), .int .i64 i] 45) = w1 := ⟨_, rfl⟩
  have hg1 : w1.heap[w.heap.size]? = some (.cells #[.bool pv, .int .u64 (ph : Int), .int .u64 (pl : Int), .int .i64 i] 45 (0, 0)) := hw1 ▸ blk_new _ _ _
  have hz1 : w1.heap.size = w.heap.size + 1 := by rw [← hw1]; simp
  have hB1 : Below w.heap.size w w1 := hw1 ▸ (Below.refl _ _).alloc (Nat.le_refl _) _
  obtain ⟨w2, hw2⟩ : ∃ w2, w1.alloc (.cells #[.bool mv, .int .u64 (hi : Int), .int .u64 (lo : Int)] 24) = w2 := ⟨_, rfl⟩
  have hg2 : w2.heap[w1.heap.size]? = some (.cells #[.bool mv, .int .u64 (hi : Int), .int .u64 (lo : Int)] 24 (0, 0)) := hw2 ▸ blk_new _ _ _
  have hB2' : Below w1.heap.size w1 w2 := hw2 ▸ (Below.refl _ _).alloc (Nat.le_refl _) _
  have hz2 : w1.heap.size < w2.heap.size := by rw [← hw2]; simp
  rw [hz1] at hg2
  have hg1 := blk_below hB2' (by omega) hg1
  have hB2 := hB1.trans (hB2'.mono hB1.size)
  clear hB1 hB2'
  have hz : w.heap.size + 1 < w2.heap.size := by omega
  have hzz : w.heap.size < w2.heap.size := by omega
  have hca := fun l : Later w2 => blk_cell (blk_below l.hb hzz hg1)
  have hcb := fun l : Later w2 => blk_cell (blk_below l.hb hz hg2)
  have q1 := fun l : Later w2 => hR l.w
  have q3 := fun l : Later w2 => hMask l.w
  clear hR hMask
  replace hg1 := hide hg1
  replace hg2 := hide hg2
  replace hB2 := hide hB2
  replace q1 := hide q1
  replace q3 := hide q3
  cases RP
  · obtain rfl : HP = false := hn1 rfl
    clear hn1 hn2 his
    go_enter Tryd.func33, Tryd.ntmps33
    go_upto_region 1 with fail
    clear hw1 hw2
    refine wp_region_L (by as_aux_lemma => kernel_rfl) ?_
    refine wpE_seg 0 20 (fuel := 0) (by as_aux_lemma => kernel_rfl) (fun d _ _ _ _ h => by cases d <;> exact h) (by as_aux_lemma => kernel_rfl) (by as_aux_lemma => kernel_rfl) ?_
    simp only [List.drop_zero, List.take_succ_cons, List.take_zero]
    iterate 1 (refine wpQE_step (fun K hK => ?_); go_simp; refine hK _ ?_; clear hK K)
    (refine wpQE_step (fun K hK => ?_); go_simp; apply Exists.intro; refine ⟨fun l => ?_, hK _ ?_⟩; (go_at_call 32; refine (q1.out l).mono ?_; rintro e w' ⟨rfl, hb⟩; exact ⟨rfl, hb⟩); clear hK K)
    refine wpQE_val_skip (.bool false) 6 rfl (fun l => rfl) (by as_aux_lemma => kernel_rfl) ?_
    dsimp only [putU, List.take_succ_cons, List.take_zero, List.drop_succ_cons, List.drop_zero, Act.put]
    iterate 1 (refine wpQE_step (fun K hK => ?_); go_simp; refine hK _ ?_; clear hK K)
    refine wpQE_val_skip (.bool false) 7 rfl (fun l => rfl) (by as_aux_lemma => kernel_rfl) ?_
    dsimp only [putU, List.take_succ_cons, List.take_zero, List.drop_succ_cons, List.drop_zero, Act.put]
    iterate 2 (refine wpQE_step (fun K hK => ?_); go_simp; refine hK _ ?_; clear hK K)
    refine wpQE_nil ?_
    refine wpE_done (by as_aux_lemma => kernel_rfl) (fun w3 hb3 => ?_) 0
    clear hca hcb
    have hB3 := hB2.out.trans (hb3.mono hB2.out.size)
    clear hb3
    replace hB3 := hide hB3
    go_wp2_with fail
    go_ret
    exact ⟨rfl, hB3.out⟩
  by_cases h6 : mv = pv
  · subst h6
    have hfin := his rfl (by simp)
    clear hn1 hn2 his
    by_cases e1 : mh = ph
    · subst e1
      by_cases e2 : ml = pl
      · subst e2
        rw [decide_eq_true rfl] at hfin
        subst hfin
        go_enter Tryd.func33, Tryd.ntmps33
        go_upto_region 1 with fail
        clear hw1 hw2
        refine wp_region_L (by as_aux_lemma => kernel_rfl) ?_
        refine wpE_seg 0 20 (fuel := 0) (by as_aux_lemma => kernel_rfl) (fun d _ _ _ _ h => by cases d <;> exact h) (by as_aux_lemma => kernel_rfl) (by as_aux_lemma => kernel_rfl) ?_
        simp only [List.drop_zero, List.take_succ_cons, List.take_zero]
        iterate 1 (refine wpQE_step (fun K hK => ?_); go_simp; refine hK _ ?_; clear hK K)
        (refine wpQE_step (fun K hK => ?_); go_simp; apply Exists.intro; refine ⟨fun l => ?_, hK _ ?_⟩; (go_at_call 32; refine (q1.out l).mono ?_; rintro e w' ⟨rfl, hb⟩; exact ⟨rfl, hb⟩); clear hK K)
        iterate 7 (refine wpQE_step (fun K hK => ?_); go_simp; refine hK _ ?_; clear hK K)
        iterate 2 (refine wpQE_step (fun K hK => ?_); go_simp; refine hK _ ?_; clear hK K)
        iterate 3 (refine wpQE_step (fun K hK => ?_); go_simp; refine hK _ ?_; clear hK K)
        (refine wpQE_step (fun K hK => ?_); go_simp; apply Exists.intro; refine ⟨fun l => ?_, hK _ ?_⟩; (go_at_call 30; refine (q3.out l).mono ?_; rintro e w' ⟨rfl, hb⟩; exact ⟨rfl, hb⟩); clear hK K)
        iterate 5 (refine wpQE_step (fun K hK => ?_); go_simp; refine hK _ ?_; clear hK K)
        refine wpQE_nil ?_
        refine wpE_done (by as_aux_lemma => kernel_rfl) (fun w3 hb3 => ?_) 0
        clear hca hcb
        have hB3 := hB2.out.trans (hb3.mono hB2.out.size)
        clear hb3
        replace hB3 := hide hB3
        go_wp2_with fail
        go_ret
        exact ⟨rfl, hB3.out⟩
      · have n2 : ¬ (ml : Int) = (pl : Int) := by omega
        rw [decide_eq_false (fun h => e2 (Adr.mk.inj h).2.2)] at hfin
        subst hfin
        replace e2 := hide e2
        go_enter Tryd.func33, Tryd.ntmps33
        go_upto_region 1 with fail
        clear hw1 hw2
        refine wp_region_L (by as_aux_lemma => kernel_rfl) ?_
        refine wpE_seg 0 20 (fuel := 0) (by as_aux_lemma => kernel_rfl) (fun d _ _ _ _ h => by cases d <;> exact h) (by as_aux_lemma => kernel_rfl) (by as_aux_lemma => kernel_rfl) ?_
        simp only [List.drop_zero, List.take_succ_cons, List.take_zero]
        iterate 1 (refine wpQE_step (fun K hK => ?_); go_simp; refine hK _ ?_; clear hK K)
        (refine wpQE_step (fun K hK => ?_); go_simp; apply Exists.intro; refine ⟨fun l => ?_, hK _ ?_⟩; (go_at_call 32; refine (q1.out l).mono ?_; rintro e w' ⟨rfl, hb⟩; exact ⟨rfl, hb⟩); clear hK K)
        iterate 7 (refine wpQE_step (fun K hK => ?_); go_simp; refine hK _ ?_; clear hK K)
        iterate 2 (refine wpQE_step (fun K hK => ?_); go_simp; refine hK _ ?_; clear hK K)
        iterate 3 (refine wpQE_step (fun K hK => ?_); go_simp; refine hK _ ?_; clear hK K)
        (refine wpQE_step (fun K hK => ?_); go_simp; apply Exists.intro; refine ⟨fun l => ?_, hK _ ?_⟩; (go_at_call 30; refine (q3.out l).mono ?_; rintro e w' ⟨rfl, hb⟩; exact ⟨rfl, hb⟩); clear hK K)
        iterate 5 (refine wpQE_step (fun K hK => ?_); go_simp; refine hK _ ?_; clear hK K)
        refine wpQE_nil ?_
        refine wpE_done (by as_aux_lemma => kernel_rfl) (fun w3 hb3 => ?_) 0
        clear hca hcb
        have hB3 := hB2.out.trans (hb3.mono hB2.out.size)
        clear hb3
        replace hB3 := hide hB3
        go_wp2_with fail
        go_ret
        exact ⟨rfl, hB3.out⟩
    · have n1 : ¬ (mh : Int) = (ph : Int) := by omega
      rw [decide_eq_false (fun h => e1 (Adr.mk.inj h).2.1)] at hfin
      subst hfin
      replace e1 := hide e1
      go_enter Tryd.func33, Tryd.ntmps33
      go_upto_region 1 with fail
      clear hw1 hw2
      refine wp_region_L (by as_aux_lemma => kernel_rfl) ?_
      refine wpE_seg 0 20 (fuel := 0) (by as_aux_lemma => kernel_rfl) (fun d _ _ _ _ h => by cases d <;> exact h) (by as_aux_lemma => kernel_rfl) (by as_aux_lemma => kernel_rfl) ?_
      simp only [List.drop_zero, List.take_succ_cons, List.take_zero]
      iterate 1 (refine wpQE_step (fun K hK => ?_); go_simp; refine hK _ ?_; clear hK K)
      (refine wpQE_step (fun K hK => ?_); go_simp; apply Exists.intro; refine ⟨fun l => ?_, hK _ ?_⟩; (go_at_call 32; refine (q1.out l).mono ?_; rintro e w' ⟨rfl, hb⟩; exact ⟨rfl, hb⟩); clear hK K)
      iterate 7 (refine wpQE_step (fun K hK => ?_); go_simp; refine hK _ ?_; clear hK K)
      iterate 2 (refine wpQE_step (fun K hK => ?_); go_simp; refine hK _ ?_; clear hK K)
      iterate 3 (refine wpQE_step (fun K hK => ?_); go_simp; refine hK _ ?_; clear hK K)
      (refine wpQE_step (fun K hK => ?_); go_simp; apply Exists.intro; refine ⟨fun l => ?_, hK _ ?_⟩; (go_at_call 30; refine (q3.out l).mono ?_; rintro e w' ⟨rfl, hb⟩; exact ⟨rfl, hb⟩); clear hK K)
      iterate 5 (refine wpQE_step (fun K hK => ?_); go_simp; refine hK _ ?_; clear hK K)
      refine wpQE_nil ?_
      refine wpE_done (by as_aux_lemma => kernel_rfl) (fun w3 hb3 => ?_) 0
      clear hca hcb
      have hB3 := hB2.out.trans (hb3.mono hB2.out.size)
      clear hb3
      replace hB3 := hide hB3
      go_wp2_with fail
      go_ret
      exact ⟨rfl, hB3.out⟩
  · obtain rfl : HP = false := hn2 (by simpa using h6)
    clear hn1 hn2 his
    cases mv <;> cases pv
    · exact absurd rfl h6
    · go_enter Tryd.func33, Tryd.ntmps33
      go_upto_region 1 with fail
      clear hw1 hw2
      refine wp_region_L (by as_aux_lemma => kernel_rfl) ?_
      refine wpE_seg 0 20 (fuel := 0) (by as_aux_lemma => kernel_rfl) (fun d _ _ _ _ h => by cases d <;> exact h) (by as_aux_lemma => kernel_rfl) (by as_aux_lemma => kernel_rfl) ?_
      simp only [List.drop_zero, List.take_succ_cons, List.take_zero]
      iterate 1 (refine wpQE_step (fun K hK => ?_); go_simp; refine hK _ ?_; clear hK K)
      (refine wpQE_step (fun K hK => ?_); go_simp; apply Exists.intro; refine ⟨fun l => ?_, hK _ ?_⟩; (go_at_call 32; refine (q1.out l).mono ?_; rintro e w' ⟨rfl, hb⟩; exact ⟨rfl, hb⟩); clear hK K)
      iterate 7 (refine wpQE_step (fun K hK => ?_); go_simp; refine hK _ ?_; clear hK K)
      iterate 1 (refine wpQE_step (fun K hK => ?_); go_simp; refine hK _ ?_; clear hK K)
      refine wpQE_val_skip (.bool false) 7 rfl (fun l => rfl) (by as_aux_lemma => kernel_rfl) ?_
      dsimp only [putU, List.take_succ_cons, List.take_zero, List.drop_succ_cons, List.drop_zero, Act.put]
      iterate 2 (refine wpQE_step (fun K hK => ?_); go_simp; refine hK _ ?_; clear hK K)
      refine wpQE_nil ?_
      refine wpE_done (by as_aux_lemma => kernel_rfl) (fun w3 hb3 => ?_) 0
      clear hca hcb
      have hB3 := hB2.out.trans (hb3.mono hB2.out.size)
      clear hb3
      replace hB3 := hide hB3
      go_wp2_with fail
      go_ret
      exact ⟨rfl, hB3.out⟩
    · go_enter Tryd.func33, Tryd.ntmps33
      go_upto_region 1 with fail
      clear hw1 hw2
      refine wp_region_L (by as_aux_lemma => kernel_rfl) ?_
      refine wpE_seg 0 20 (fuel := 0) (by as_aux_lemma => kernel_rfl) (fun d _ _ _ _ h => by cases d <;> exact h) (by as_aux_lemma => kernel_rfl) (by as_aux_lemma => kernel_rfl) ?_
      simp only [List.drop_zero, List.take_succ_cons, List.take_zero]
      iterate 1 (refine wpQE_step (fun K hK => ?_); go_simp; refine hK _ ?_; clear hK K)
      (refine wpQE_step (fun K hK => ?_); go_simp; apply Exists.intro; refine ⟨fun l => ?_, hK _ ?_⟩; (go_at_call 32; refine (q1.out l).mono ?_; rintro e w' ⟨rfl, hb⟩; exact ⟨rfl, hb⟩); clear hK K)
      iterate 7 (refine wpQE_step (fun K hK => ?_); go_simp; refine hK _ ?_; clear hK K)
      iterate 1 (refine wpQE_step (fun K hK => ?_); go_simp; refine hK _ ?_; clear hK K)
      refine wpQE_val_skip (.bool false) 7 rfl (fun l => rfl) (by as_aux_lemma => kernel_rfl) ?_
      dsimp only [putU, List.take_succ_cons, List.take_zero, List.drop_succ_cons, List.drop_zero, Act.put]
      iterate 2 (refine wpQE_step (fun K hK => ?_); go_simp; refine hK _ ?_; clear hK K)
      refine wpQE_nil ?_
      refine wpE_done (by as_aux_lemma => kernel_rfl) (fun w3 hb3 => ?_) 0
      clear hca hcb
      have hB3 := hB2.out.trans (hb3.mono hB2.out.size)
      clear hb3
      replace hB3 := hide hB3
      go_wp2_with fail
      go_ret
      exact ⟨rfl, hB3.out⟩
    · exact absurd rfl h6
end Addr05
end Go.Proofs.YtccmbnaakdffaaaDoor
