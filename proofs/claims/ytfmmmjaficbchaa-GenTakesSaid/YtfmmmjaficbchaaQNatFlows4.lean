/- The small functions of layer 8, and what its statements' texts use, by contract. Conditions: slices of bytes that read as lists. -/
import Derived.Test.YtfmmmjaficbchaaQNatFlows3
import Derived.Test.YtfmmmjaficbchaaQNatFlows1
import Derived.Test.YtfmmmjaficbchaaQNatFlows2
import Derived.Deep.DeepCutAuto
import Derived.Laws.OwnMore
namespace Go.Proofs.Ytfmmmjaficbchaa
open Go.RowKit Go.ChangeShapes Go.WideShapes Go.ChangeAt Go.Deep
/-- An address, as a value. -/
abbrev addrV (v : Bool) (hi lo : Int) : Value := .agg #[.bool v, .int .u64 hi, .int .u64 lo]
namespace Four
/-- A header, as a value. -/
abbrev hdV (tos id : Int) (df mf : Bool) (frag ttl proto : Int) (sv : Bool) (shi slo : Int) (dv : Bool) (dhi dlo : Int) (A : Option Addr) (n c : Nat) : Value :=
  .agg #[.int .i64 tos, .int .i64 id, .bool df, .bool mf, .int .i64 frag, .int .i64 ttl, .int .i64 proto, .bool sv, .int .u64 shi, .int .u64 slo, .bool dv, .int .u64 dhi, .int .u64 dlo, .slice A n c]
/-- A header's cells. -/
abbrev hdC (tos id : Int) (df mf : Bool) (frag ttl proto : Int) (sv : Bool) (shi slo : Int) (dv : Bool) (dhi dlo : Int) (A : Option Addr) (n c : Nat) : Obj :=
  .cells #[.int .i64 tos, .int .i64 id, .bool df, .bool mf, .int .i64 frag, .int .i64 ttl, .int .i64 proto, .bool sv, .int .u64 shi, .int .u64 slo, .bool dv, .int .u64 dhi, .int .u64 dlo, .slice A n c] 106
theorem v4_any (x : Int) (w : World) (hx : 0 ≤ x) (hx2 : x < 4294967296) :
    Calls Try.prog 39 #[.int .u32 x] w fun e w' => e = .returned (.agg #[.bool false, .int .u64 0, .int .u64 x]) ∧ Below w.heap.size w w' := by
  go_enter Try.func39, Try.ntmps39
  go_wp2
  exact bodyPost_ret (v := .agg #[.bool false, .int .u64 0, .int .u64 x]) (by simp [results, Try.results39, go_sem]) rfl ⟨rfl, (Below.refl _ _).alloc (Nat.le_refl _) _⟩
/-- May an address be? -/
def okA (v : Bool) (hi lo : Int) : Bool := v || (decide (hi = 0) && decide (lo < 4294967296))
theorem addr_right (v : Bool) (hi lo : Int) (r : Bool) (w : World) (hr : okA v hi lo = r) :
    Calls Try.prog 13 #[.agg #[.bool v, .int .u64 hi, .int .u64 lo]] w fun e w' => e = .returned (.bool r) ∧ Below w.heap.size w w' := by
  subst hr
  rcases v with _ | _
  · by_cases h1 : hi = 0
    · subst h1
      go_enter Try.func13, Try.ntmps13
      go_wp2
      go_ret
      exact ⟨by simp [okA], (Below.refl _ _).alloc (Nat.le_refl _) _⟩
    · have h2 : (hi == 0) = false := by simp [h1]
      go_enter Try.func13, Try.ntmps13
      go_wp2
      go_ret
      exact ⟨by simp [okA, h1], (Below.refl _ _).alloc (Nat.le_refl _) _⟩
  · go_enter Try.func13, Try.ntmps13
    go_wp2
    go_ret
    exact ⟨by simp [okA], (Below.refl _ _).alloc (Nat.le_refl _) _⟩
theorem len_any (tos id : Int) (df mf : Bool) (frag ttl proto : Int) (sv : Bool) (shi slo : Int) (dv : Bool) (dhi dlo : Int) (A : Option Addr) (n c : Nat) (w : World) (hn : n ≤ 1099511627776) :
    Calls Try.prog 62 #[hdV tos id df mf frag ttl proto sv shi slo dv dhi dlo A n c] w fun e w' => e = .returned (.int .i64 (20 + (n : Int))) ∧ Below w.heap.size w w' := by
  unfold hdV
  go_enter Try.func62, Try.ntmps62
  go_wp2
  go_ret
  exact ⟨rfl, (Below.refl _ _).alloc (Nat.le_refl _) _⟩
end Four
end Go.Proofs.Ytfmmmjaficbchaa
/- Plain facts on bytes that are put and read again, and on the check among them. No condition. -/
namespace Go.Proofs.Ytfmmmjaficbchaa
theorem beB_getD (N : Nat) : ∀ (k j : Nat), j < k → (beB N k).getD j 0 = UInt8.ofNat (N / 256 ^ (k - 1 - j))
  | 0, j, h => by omega
  | k + 1, 0, _ => by simp [beB]
  | k + 1, j + 1, h => by
    simp only [beB, List.getD_cons_succ]
    rw [beB_getD N k j (by omega), show k + 1 - 1 - (j + 1) = k - 1 - j by omega]
theorem getD_mid (pre mid post : List UInt8) (j : Nat) (h : j < mid.length) : (pre ++ (mid ++ post)).getD (pre.length + j) 0 = mid.getD j 0 := by
  simp only [List.getD]
  rw [List.getElem?_append_right (by omega), show pre.length + j - pre.length = j by omega, List.getElem?_append_left h]
theorem beN_mid (N k : Nat) (pre post : List UInt8) (p : Nat) (hp : pre.length = p) : ∀ j, j ≤ k → beN (pre ++ (beB N k ++ post)) p j = N / 256 ^ (k - j) % 256 ^ j
  | 0, _ => by simp [beN, Nat.mod_one]
  | j + 1, h => by
    subst hp
    have ih := beN_mid N k pre post pre.length rfl j (by omega)
    rw [beN, ih, getD_mid _ _ _ _ (by rw [beB_length]; omega), beB_getD _ _ _ (by omega), UInt8.toNat_ofNat']
    rw [show k - 1 - j = k - (j + 1) by omega]
    have e1 : N / 256 ^ (k - j) = N / 256 ^ (k - (j + 1)) / 256 := by
      rw [show k - j = (k - (j + 1)) + 1 by omega, Nat.pow_succ, Nat.div_div_eq_div_mul]
    rw [e1]
    generalize N / 256 ^ (k - (j + 1)) = M
    rw [show 256 ^ (j + 1) = 256 * 256 ^ j by rw [Nat.pow_succ, Nat.mul_comm], Nat.mod_mul]
    omega
theorem beN_put (N k : Nat) (pre post : List UInt8) (p : Nat) (hp : pre.length = p) (hN : N < 256 ^ k) : beN (pre ++ (beB N k ++ post)) p k = N := by
  rw [beN_mid N k pre post p hp k (Nat.le_refl _)]
  simp [Nat.mod_eq_of_lt hN]
namespace Sum
theorem ones_check (T : Nat) : ones (T + (65535 - ones T)) = 65535 := by
  unfold ones
  split
  · rename_i h0
    subst h0
    rfl
  · have h1 : (T - 1) % 65535 < 65535 := Nat.mod_lt _ (by omega)
    have h2 : T + (65535 - ((T - 1) % 65535 + 1)) ≠ 0 := by omega
    rw [if_neg h2]
    omega
theorem tot_two (c : Nat) (hc : c ≤ 65535) : tot false (beB c 2) = c := by
  simp only [beB, tot, UInt8.toNat_ofNat']
  simp
  omega
/-- The sum behind a check that is set where two zeros stood, at an even place. -/
theorem tot_set (pre xs : List UInt8) (p c : Nat) (hc : c ≤ 65535) (hp : p + 2 ≤ xs.length) (h0 : (xs.drop p).take 2 = [0, 0]) (he : (pre.length + p) % 2 = 0) : tot false (pre ++ setB xs p (beB c 2)) = tot false (pre ++ xs) + c := by
  have hx : xs = xs.take p ++ ([0, 0] ++ xs.drop (p + 2)) := by
    rw [← h0, ← List.drop_drop, List.take_append_drop, List.take_append_drop]
  have hl : (xs.take p).length = p := by rw [List.length_take]; omega
  conv => rhs; rw [hx]
  unfold setB
  rw [beB_length]
  have hpar : (false ^^ decide (pre.length % 2 = 1) ^^ decide ((xs.take p).length % 2 = 1)) = false := by
    rw [hl]
    by_cases h1 : pre.length % 2 = 1 <;> by_cases h2 : p % 2 = 1 <;> simp [h1, h2] <;> omega
  rw [tot_append, tot_append, tot_append, tot_append, tot_append, tot_append, hpar, tot_two c hc]
  have e2 : tot false ([0, 0] : List UInt8) = 0 := by simp [tot]
  rw [e2, beB_length]
  simp only [List.length_cons, List.length_nil, Nat.zero_add, Nat.reduceAdd]
  omega
end Sum
end Go.Proofs.Ytfmmmjaficbchaa
/- six.Pseudo, by contract. Conditions: numbers of 64 bits. -/
namespace Go.Proofs.Ytfmmmjaficbchaa
open Go.RowKit Go.ChangeShapes Go.WideShapes Go.ChangeAt Go.Deep
namespace Six
def pseudoB (shi slo dhi dlo s1 p1 : Nat) : List UInt8 := (allB 8 [shi, slo, dhi, dlo] ++ beB s1 4) ++ [0, 0, 0, UInt8.ofNat p1]
set_option maxRecDepth 20000 in
set_option maxHeartbeats 2000000 in
theorem pseudo_any (sv : Bool) (shi slo : Nat) (dv : Bool) (dhi dlo : Nat) (proto size : Int) (p1 s1 : Nat) (hp1 : proto % 256 = (p1 : Int)) (hs1 : IntKind.u64.wrap size = (s1 : Int)) (w : World) (h1 : shi < 18446744073709551616) (h2 : slo < 18446744073709551616) (h3 : dhi < 18446744073709551616) (h4 : dlo < 18446744073709551616) (hs2 : s1 < 18446744073709551616) :
    Calls Try.prog 67 #[.agg #[.bool sv, .int .u64 shi, .int .u64 slo], .agg #[.bool dv, .int .u64 dhi, .int .u64 dlo], .int .i64 proto, .int .i64 size] w fun e w' => ∃ v, e = .returned v ∧ OwnB w' w.heap.size v (pseudoB shi slo dhi dlo s1 p1) ∧ Below w.heap.size w w' := by
  obtain ⟨w1, hw1'⟩ : ∃ w1, (w.alloc (.cells #[.bool sv, .int .u64 shi, .int .u64 slo] 26)).alloc (.cells #[.bool dv, .int .u64 dhi, .int .u64 dlo] 26) = w1 := ⟨_, rfl⟩
  have hb1 : Below w.heap.size w w1 := hw1' ▸ ((Below.refl _ _).alloc (Nat.le_refl _) _).alloc (by simp) _
  have hz1 : w1.heap.size = w.heap.size + 1 + 1 := by rw [← hw1']; simp
  have hcs : ∀ i, w1.cell? ⟨w.heap.size, i, none⟩ = _ := fun i => blk_cell (by rw [← hw1']; exact blk_old _ (by simp) (blk_new w 26 #[.bool sv, .int .u64 shi, .int .u64 slo])) i
  have hcd : ∀ i, w1.cell? ⟨w.heap.size + 1, i, none⟩ = _ := fun i => blk_cell (by rw [← hw1']; simpa using blk_new (w.alloc (.cells #[.bool sv, .int .u64 shi, .int .u64 slo] 26)) 26 #[.bool dv, .int .u64 dhi, .int .u64 dlo]) i
  have hp2 : IntKind.u8.wrap proto = (p1 : Int) := by rw [IntKind.wrap_u8]; exact hp1
  have hp3 : p1 ≤ 255 := by omega
  have hN : ∀ N ∈ [shi, slo, dhi, dlo], N < 18446744073709551616 := by
    intro N hN
    simp only [List.mem_cons, List.not_mem_nil, or_false] at hN
    rcases hN with rfl | rfl | rfl | rfl
    · exact h1
    · exact h2
    · exact h3
    · exact h4
  clear h1 h2 h3 h4
  replace hN := hide hN
  replace hs2 := hide hs2
  replace hp1 := hide hp1
  replace hb1 := hide hb1
  replace hz1 := hide hz1
  go_enter Try.func67, Try.ntmps67
  go_wp2_with fail
  refine (all_lit w1.heap.size _ [] 8 _ rfl [shi, slo, dhi, dlo] _ rfl 4 _ rfl _ w1 _ rfl (OwnB.nil _ _) (Nat.le_refl _) (by omega) (by simp) (by omega) hN.out).mono ?_
  rintro e w2 ⟨v2, rfl, hown2, hg2⟩
  have hb2 := hg2.belowNil
  have hz2 := hb2.size
  clear hw1' hg2 hcs hcd
  replace hown2 := hide hown2
  replace hb2 := hide hb2
  go_wp2_with fail
  refine (put_lit _ _ s1 4 rfl rfl w1.heap.size _ _ _ hown2.out hz2 hs2.out (by omega) (by simp [allB_length])).mono ?_
  rintro e w3 ⟨v3, rfl, hown3, hg3⟩
  have hb3 := hb2.out.trans (hg3.below hown2.out hz2)
  have hz3 := hb3.size
  have hv3 : [Value.int .u8 0, .int .u8 0, .int .u8 0, .int .u8 (p1 : Int)] = ([0, 0, 0, UInt8.ofNat p1] : List UInt8).map u8v := by
    simp only [List.map_cons, List.map_nil]
    rw [u8v_nat _ hp3]
    rfl
  clear hg3
  replace hown3 := hide hown3
  replace hb3 := hide hb3
  replace hv3 := hide hv3
  go_wp2_with (at_builtin; refine wpl_lit_bv rfl (.tmp 24) (.tmp 27) rfl w1.heap.size _ _ [0, 0, 0, UInt8.ofNat p1] _ _ rfl rfl hv3.out rfl hown3.out hz3 ?_ ?_)
  · simp [beB_length, allB_length]
  intro v4 w4 hown4 hg4
  have hb4 := hb1.out.trans ((hb3.out.trans (hg4.below hown3.out hz3)).mono (by have := hz1.out; omega))
  clear hg4
  replace hown4 := hide hown4
  replace hb4 := hide hb4
  go_wp2_with fail
  go_ret
  refine ⟨_, rfl, ?_, hb4.out⟩
  have h4 := hown4.out.weaken (base' := w.heap.size) (by have := hz1.out; omega)
  simpa [pseudoB] using h4
end Six
end Go.Proofs.Ytfmmmjaficbchaa
/- The pseudo header by contract. Conditions: numbers of 64 bits. -/
namespace Go.Proofs.Ytfmmmjaficbchaa
open Go.RowKit Go.ChangeShapes Go.WideShapes Go.ChangeAt Go.Deep
namespace Four
set_option maxRecDepth 20000 in
set_option maxHeartbeats 2000000 in
theorem pseudo_any (sv : Bool) (shi slo : Nat) (dv : Bool) (dhi dlo : Nat) (proto size : Int) (p1 s1 : Nat) (hp1 : proto % 256 = (p1 : Int)) (hs1 : IntKind.u64.wrap size = (s1 : Int)) (w : World) (h1 : slo < 18446744073709551616) (h2 : dlo < 18446744073709551616) (hs2 : s1 < 18446744073709551616) :
    Calls Try.prog 64 #[.agg #[.bool sv, .int .u64 shi, .int .u64 slo], .agg #[.bool dv, .int .u64 dhi, .int .u64 dlo], .int .i64 proto, .int .i64 size] w fun e w' => ∃ v, e = .returned v ∧ OwnB w' w.heap.size v (((beB slo 4 ++ beB dlo 4) ++ [0, UInt8.ofNat p1]) ++ beB s1 2) ∧ Below w.heap.size w w' := by
  obtain ⟨w1, hw1'⟩ : ∃ w1, (w.alloc (.cells #[.bool sv, .int .u64 shi, .int .u64 slo] 26)).alloc (.cells #[.bool dv, .int .u64 dhi, .int .u64 dlo] 26) = w1 := ⟨_, rfl⟩
  have hb1 : Below w.heap.size w w1 := hw1' ▸ ((Below.refl _ _).alloc (Nat.le_refl _) _).alloc (by simp) _
  have hz1 : w1.heap.size = w.heap.size + 1 + 1 := by rw [← hw1']; simp
  have hcs : ∀ i, w1.cell? ⟨w.heap.size, i, none⟩ = _ := fun i => blk_cell (by rw [← hw1']; exact blk_old _ (by simp) (blk_new w 26 #[.bool sv, .int .u64 shi, .int .u64 slo])) i
  have hcd : ∀ i, w1.cell? ⟨w.heap.size + 1, i, none⟩ = _ := fun i => blk_cell (by rw [← hw1']; simpa using blk_new (w.alloc (.cells #[.bool sv, .int .u64 shi, .int .u64 slo] 26)) 26 #[.bool dv, .int .u64 dhi, .int .u64 dlo]) i
  have hp2 : IntKind.u8.wrap proto = (p1 : Int) := by rw [IntKind.wrap_u8]; exact hp1
  have hp3 : p1 ≤ 255 := by omega
  have hN : ∀ N ∈ [slo, dlo], N < 18446744073709551616 := by
    intro N hN
    simp only [List.mem_cons, List.not_mem_nil, or_false] at hN
    rcases hN with rfl | rfl
    · exact h1
    · exact h2
  replace hN := hide hN
  replace hs2 := hide hs2
  clear h1 h2
  replace hp1 := hide hp1
  replace hb1 := hide hb1
  replace hz1 := hide hz1
  go_enter Try.func64, Try.ntmps64
  go_wp2_with fail
  refine (all_lit w1.heap.size _ [] 4 _ rfl [slo, dlo] _ rfl 2 _ rfl _ w1 _ rfl (OwnB.nil _ _) (Nat.le_refl _) (by omega) (by simp) (by omega) hN.out).mono ?_
  rintro e w2 ⟨v2, rfl, hown2, hg2⟩
  have hb2 := hg2.belowNil
  have hz2 := hb2.size
  have hv3 : [Value.int .u8 0, .int .u8 (p1 : Int)] = ([0, UInt8.ofNat p1] : List UInt8).map u8v := by
    simp only [List.map_cons, List.map_nil]
    rw [u8v_nat _ hp3]
    rfl
  clear hw1' hg2 hcs hcd
  replace hown2 := hide hown2
  replace hb2 := hide hb2
  replace hv3 := hide hv3
  go_wp2_with (at_builtin; refine wpl_lit_bv rfl (.tmp 16) (.tmp 19) rfl w1.heap.size _ _ [0, UInt8.ofNat p1] _ _ rfl rfl ?_ ?_ hown2.out ?_ ?_ ?_)
  · exact hv3.out
  · rfl
  · exact hz2
  · simp [beB_length, allB_length]
  intro v3 w3 hown3 hg3
  have hb3 := hb2.out.trans (hg3.below hown2.out hz2)
  clear hg3
  replace hown3 := hide hown3
  replace hb3 := hide hb3
  go_wp2_with fail
  refine (put_lit _ _ s1 2 rfl rfl w1.heap.size _ _ _ hown3.out hb3.out.size hs2.out (by omega) (by simp [allB_length])).mono ?_
  rintro e w4 ⟨v4, rfl, hown4, hg4⟩
  have hb4 := hb1.out.trans ((hb3.out.trans (hg4.below hown3.out hb3.out.size)).mono (by have := hz1.out; omega))
  clear hg4
  replace hown4 := hide hown4
  replace hb4 := hide hb4
  go_wp2_with fail
  go_ret
  refine ⟨_, rfl, ?_, hb4.out⟩
  have h4 := hown4.out.weaken (base' := w.heap.size) (by have := hz1.out; omega)
  simpa [allB] using h4
end Four
end Go.Proofs.Ytfmmmjaficbchaa
/- The builtin copy of bytes into a row of the call's own, in a region of one order. Conditions: the place lies within the row. -/
namespace Go.Proofs.Ytfmmmjaficbchaa
open Go.RowKit Go.ChangeShapes Go.WideShapes Go.ChangeAt Go.Deep
theorem wpl_copy_b {w : World} {ops : Array Oper} {rest : List Oper} {o : Oper} {a : Act} {Q : Exit → Act → World → Prop} (hgd : o.guard = none) (d s : Operand)
    (ho : o.op = .call { callee := .builtin .copy, args := #[d, s], argTypes := #[22, 22] }) (base g n c p dl dc m sc B k : Nat) (A : Option Addr) (xs ys : List UInt8)
    (hd : a.eval d = .slice (some ⟨g, p, none⟩) dl dc) (hs : a.eval s = .slice A m sc) (hown : OwnB w base (.slice (some ⟨g, 0, none⟩) n c) xs) (hr : IsB w B A m ys) (hp : p + dl ≤ n) (h0 : 0 < n) (hk : min m dl = k)
    (h : ∀ w', OwnB w' base (.slice (some ⟨g, 0, none⟩) n c) (setB xs p (ys.take k)) → Below g w w' → wpList Try.prog ops Q rest (a.put o.dst (goInt k)) w') : wpList Try.prog ops Q (o :: rest) a w := by
  obtain ⟨g', cur, hg', hb, hh, hcl, htk, hn, hm, hl⟩ := hown.row h0
  cases hg'
  have hkl : (ys.take k).length = k := by rw [List.length_take, hr.1]; omega
  have hkl' : ((ys.take k).map u8v).length = k := by rw [List.length_map, hkl]
  refine wpList_copy_splice hgd d s _ _ ho 5 Try.underlying22 (by kernel_rfl) _ _ _ _ _ _ hd hs g p cur 5 hh ((ys.take k).map u8v) ?_ ?_ ?_ (u8v_one _) g w (Below.refl _ _) (Nat.le_refl _) ?_
  · rw [hkl', ← hk]
  · intro h1
    rw [hkl'] at h1
    obtain ⟨b2, off2, rfl, _, hcs2⟩ := hr.vals.2 (by omega)
    refine ⟨rfl, _, rfl, fun j v hj => ?_⟩
    obtain ⟨hj', rfl⟩ := List.getElem?_eq_some_iff.1 hj
    rw [hkl'] at hj'
    rw [show Addr.add ⟨b2, off2, none⟩ j = (⟨b2, off2 + j, none⟩ : Addr) by unfold Addr.add; split <;> simp_all]
    rw [hcs2 j (by rw [List.length_map, hr.1]; omega)]
    simp
  · rw [hkl', hcl]; omega
  intro w' hh' hb'
  rw [hkl']
  refine h w' (own_of_row hb hh'.out ?_ (splice_take cur xs (ys.take k) n p htk (by rw [hcl]; exact hn) hl (by rw [hkl]; omega)) hn hm (by rw [setB_length _ _ _ (by rw [hkl, hl]; omega), hl])) hb'
  rw [length_splice _ _ _ (by rw [hkl', hcl]; omega), hcl]
theorem setB_whole (xs ys : List UInt8) (h : xs.length = ys.length) : setB xs 0 ys = ys := by
  unfold setB
  rw [List.take_zero, List.nil_append, List.drop_of_length_le (by omega), List.append_nil]
end Go.Proofs.Ytfmmmjaficbchaa
/- sum.Split, nat.words, sum.Words and nat.check by contract. Conditions: numbers of 64 bits, rows that read as lists. -/
namespace Go.Proofs.Ytfmmmjaficbchaa
open Go.RowKit Go.ChangeShapes Go.WideShapes Go.ChangeAt Go.Deep
namespace Nat15
def u16v (n : Nat) : Value := .int .u16 (n : Int)
theorem info_u16 : (Try.prog.info? 102).map (fun i => (i.zero, i.size, i.bytes)) = some (some (.int .u16 0), 1, 2) := by kernel_rfl
theorem u16_one (n : Nat) : (u16v n).oneCell' = true := rfl
/-- A number's words, the highest first. -/
def splitN (N : Nat) : Nat → List Nat
  | 0 => []
  | k + 1 => N / 65536 ^ k % 65536 :: splitN N k
theorem splitN_length (N : Nat) : ∀ k, (splitN N k).length = k
  | 0 => rfl
  | k + 1 => by rw [splitN, List.length_cons, splitN_length N k]
theorem splitN_le (N : Nat) : ∀ k, ∀ x ∈ splitN N k, x ≤ 65535
  | 0, x, h => by cases h
  | k + 1, x, h => by
    rw [splitN] at h
    rcases List.mem_cons.1 h with h | h
    · omega
    · exact splitN_le N k x h
theorem pow16 (j : Nat) (hj : j ≤ 3) : (2 : Int) ^ min (16 * (j : Int)).toNat 64 = ((65536 ^ j : Nat) : Int) := by
  have : j = 0 ∨ j = 1 ∨ j = 2 ∨ j = 3 := by omega
  rcases this with rfl | rfl | rfl | rfl <;> rfl
set_option maxHeartbeats 2000000 in
theorem split_any (N k : Nat) (w : World) (_hN : N < 18446744073709551616) (hk : k ≤ 4) :
    Calls Try.prog 60 #[.int .u64 (N : Int), .int .i64 (k : Int)] w fun e w' => ∃ v, e = .returned v ∧ OwnR 102 u16v w' w.heap.size v (splitN N k) ∧ Below w.heap.size w w' := by
  have hmk : min (k : Int) 4 = (k : Int) := by omega
  go_enter Try.func60, Try.ntmps60
  go_wp2_with fail
  clear hmk
  go_loopw [5, 6] (fun u i wr => ∃ (j : Nat) (pre : List Nat), j ≤ k ∧ i = .int .i64 ((j : Int) - 1) ∧ pre ++ splitN N j = splitN N k ∧ OwnR 102 u16v wr w.heap.size u pre ∧ Grew w (.slice none 0 0) wr u) (fun _ i _ => (intOf i + 1).toNat)
  case atStart => exact ⟨k, [], Nat.le_refl _, rfl, rfl, OwnR.nil _ _, Grew.refl _ _⟩
  case round =>
    obtain ⟨j, pre, hj, rfl, hpre, hu, hg⟩ := hrel
    have hpl : pre.length ≤ 4 := by
      have := congrArg List.length hpre
      rw [List.length_append, splitN_length, splitN_length] at this
      omega
    replace hpre := hide hpre
    replace hu := hide hu
    replace hg := hide hg
    rcases j with _ | i
    · go_wp2_with fail
      go_ret
      have h1 := hpre.out
      simp only [splitN, List.append_nil] at h1
      exact ⟨_, rfl, h1 ▸ hu.out, hg.out.belowNil⟩
    · have e1 : (((i + 1 : Nat) : Int) - 1) = (i : Int) := by omega
      rw [e1]
      have hps := pow16 i (by omega)
      go_wp2_with (at_builtin; refine wpl_lit_r Try.underlying75 info_u16 rfl (by omega) u16_one rfl (.tmp 16) (.tmp 22) rfl w.heap.size _ pre [N / 65536 ^ i % 65536] 1 1 rfl rfl ?_ rfl ?_ ?_ ?_ ?_)
      · rw [List.map_cons, List.map_nil]
        unfold u16v
        congr 3
        rw [Int.pow_mul]
        simp only [Int.natCast_emod, Int.natCast_ediv, Int.natCast_pow, Int.cast_ofNat_Int]
        rfl
      · exact hu.out
      · have := hg.out.grown.size
        omega
      · omega
      intro v' w' hown' hg'
      go_wp2_with fail
      refine ⟨⟨i, pre ++ [N / 65536 ^ i % 65536], by omega, by go_num, ?_, hown', hg.out.trans hg'⟩, by simp [intOf] <;> omega⟩
      have h1 := hpre.out
      simp only [splitN] at h1
      rw [← h1]; simp
/-- An address's words. -/
def addrW (v6 : Bool) (hi lo : Nat) : List Nat := if v6 = true then splitN hi 4 ++ splitN lo 4 else splitN lo 2
set_option maxHeartbeats 4000000 in
theorem words_any (v6 : Bool) (hi lo p : Nat) (pi : Int) (hpi : pi = (p : Int)) (w : World) (h1 : hi < 18446744073709551616) (h2 : lo < 18446744073709551616) (hp : p ≤ 65535) :
    Calls Try.prog 35 #[.agg #[.bool v6, .int .u64 (hi : Int), .int .u64 (lo : Int)], .int .i64 pi] w fun e w' => ∃ v, e = .returned v ∧ OwnR 102 u16v w' w.heap.size v (addrW v6 hi lo ++ [p]) ∧ Below w.heap.size w w' := by
  subst hpi
  obtain ⟨S, hS⟩ : ∃ S, addrW v6 hi lo = S := ⟨_, rfl⟩
  rw [hS]
  replace hS := hide hS
  obtain ⟨w1, hw1⟩ : ∃ w1, w.alloc (.cells #[.bool v6, .int .u64 (hi : Int), .int .u64 (lo : Int)] 26) = w1 := ⟨_, rfl⟩
  have hB : Below w.heap.size w w1 := hw1 ▸ (Below.refl _ _).alloc (Nat.le_refl _) _
  have hg : w1.heap[w.heap.size]? = some (.cells #[.bool v6, .int .u64 (hi : Int), .int .u64 (lo : Int)] 26 (0, 0)) := hw1 ▸ blk_new _ _ _
  have hcg := blk_cell hg
  have hpw : IntKind.u16.wrap (p : Int) = (p : Int) := by
    rw [IntKind.wrap_u16]
    omega
  have z0 := hB.size
  replace hB := hide hB
  replace hg := hide hg
  go_enter Try.func35, Try.ntmps35
  go_wp2_with fail
  clear hw1
  refine (split_any lo 2 _ h2 (by omega)).mono ?_
  rintro e w2 ⟨v2, rfl, hown2, hb2⟩
  clear hcg
  have z2 := hb2.size
  replace hB := hide (hB.out.trans (hb2.mono hB.out.size))
  replace hg := hide (blk_on hb2 hg.out)
  clear hb2
  have hcg := blk_cell hg.out
  have hl2 := splitN_length lo 2
  have hl4 := splitN_length lo 4
  have hh4 := splitN_length hi 4
  replace hl2 := hide hl2
  replace hl4 := hide hl4
  replace hh4 := hide hh4
  rcases v6 with _ | _
  · have hl := hl2.out
    have hS2 : splitN lo 2 = S := hS.out
    rw [hS2] at hown2 hl
    replace hown2 := hide hown2
    replace hl := hide hl
    replace hS2 := hide hS2
    go_upto_region 4 with fail
    clear hcg
    apply wp_region_lit
    iterate 4 (refine wpList_plain rfl fun K hK => ?_; go_simp; refine hK _ _ ?_; clear hK K)
    refine wpl_lit_r Try.underlying75 info_u16 rfl (by omega) u16_one rfl (.tmp 18) (.tmp 21) rfl w1.heap.size v2 S [p] 1 1 rfl rfl ?_ rfl hown2.out z2 ?_ ?_
    · rfl
    · have := hl.out; omega
    intro v3 w3 hown3 hg3
    have hb3 := hg3.belowR hown2.out z2
    have hfin : Below w.heap.size w w3 := hB.out.trans (hb3.mono z0)
    have hown := hown3.weaken z0
    clear hown3 hg3 hb3
    replace hfin := hide hfin
    replace hown := hide hown
    go_wp2_with fail
    go_ret
    exact ⟨v3, rfl, hown.out, hfin.out⟩
  · clear hown2
    go_upto_region 3 with fail
    have zg := blk_lt hg.out
    have hcl := fun (l : Later w2) (o : Nat) => blk_cell (blk_below l.hb zg hg.out) o
    clear hcg
    refine wp_region_L (by as_aux_lemma => kernel_rfl) ?_
    refine wpE_seg 0 2 (fuel := 6) (by as_aux_lemma => kernel_rfl) (fun d _ _ _ _ h => by cases d <;> exact h) (by as_aux_lemma => kernel_rfl) (by as_aux_lemma => kernel_rfl) ?_
    simp only [List.drop_zero, List.take_succ_cons, List.take_zero]
    iterate 2 (refine wpQE_step (fun K hK => ?_); go_simp; refine hK _ ?_; clear hK K)
    refine wpQE_nil ?_
    refine wpE_seg 3 2 (fuel := 4) (by as_aux_lemma => kernel_rfl) (fun d _ _ _ _ h => by cases d <;> exact h) (by as_aux_lemma => kernel_rfl) (by as_aux_lemma => kernel_rfl) ?_
    simp only [List.drop_succ_cons, List.drop_zero, List.take_succ_cons, List.take_zero]
    iterate 2 (refine wpQE_step (fun K hK => ?_); go_simp; refine hK _ ?_; clear hK K)
    refine wpQE_nil ?_
    clear hcl
    refine wpE_step 2 (fuel := 3) rfl (by as_aux_lemma => kernel_rfl) (fun l K hK => ?_)
    go_simp
    have hBl := hB.out.trans (l.hb.mono hB.out.size)
    have zl := hBl.size
    go_at_call 60
    refine (split_any hi 4 _ h1 (by omega)).mono ?_
    rintro e w4 ⟨v4, rfl, hown4, hb4⟩
    refine hK _ _ hb4 ?_
    clear hK K
    refine wpE_step 5 (fuel := 2) rfl (by as_aux_lemma => kernel_rfl) (fun l2 K hK => ?_)
    go_simp
    have hB4 := hBl.trans (hb4.mono zl)
    have hB5 := hB4.trans (l2.hb.mono hB4.size)
    have hown5 := hown4.below l2.hb
    go_at_call 60
    refine (split_any lo 4 _ h2 (by omega)).mono ?_
    rintro e w6 ⟨v6, rfl, hown6, hb6⟩
    refine hK _ _ hb6 ?_
    clear hK K
    have hB6 := hB5.trans (hb6.mono hB5.size)
    have hown7 := hown5.below hb6
    refine wpE_end (by as_aux_lemma => kernel_rfl) (fun l3 => ?_)
    have hB7 := hB6.trans (l3.hb.mono hB6.size)
    have hown8 := hown7.below l3.hb
    have hown9 := hown6.below l3.hb
    obtain ⟨A9, c9, rfl, hc9, hm9, hi9⟩ := hown9.form
    rw [hl4.out] at hc9 hi9 ⊢
    refine wpT_src_r Try.underlying75 info_u16 rfl (by omega) u16_one 6 rfl (by as_aux_lemma => kernel_rfl) rfl (.tmp 13) (.tmp 16) rfl l.w.heap.size v4 (splitN hi 4) (splitN lo 4) A9 4 c9 l3.w.heap.size rfl rfl hown8 hi9 ?_ ?_ ?_
    · have := hb4.size; have := l2.hb.size; have := hb6.size; have := l3.hb.size; omega
    · have := hh4.out; omega
    intro va wa howna hga
    have hS2 : splitN hi 4 ++ splitN lo 4 = S := hS.out
    have hSl : S.length = 8 := by rw [← hS2, List.length_append, hh4.out, hl4.out]
    rw [hS2] at howna
    have zz : l.w.heap.size ≤ l3.w.heap.size := by have := hb4.size; have := l2.hb.size; have := hb6.size; have := l3.hb.size; omega
    have hBa := hB7.trans ((hga.belowR hown8 zz).mono zl)
    have howna' := howna.weaken zl
    clear hown4 hown5 hown6 hown7 hown8 hown9 hi9 hga howna hb4 hb6 hB4 hB5 hB6 hB7
    replace howna' := hide howna'
    replace hBa := hide hBa
    replace hS2 := hide hS2
    replace hSl := hide hSl
    refine wpT_step 7 rfl (by as_aux_lemma => kernel_rfl) (fun K hK => ?_)
    go_simp
    refine hK _ _ ?_
    clear hK K
    refine wpT_done (by as_aux_lemma => kernel_rfl) ?_ 0
    have hBa2 := hBa.out
    go_wp2_with (at_builtin; refine wpl_lit_r Try.underlying75 info_u16 rfl (by omega) u16_one rfl (.tmp 18) (.tmp 21) rfl w.heap.size va S [p] 1 1 rfl rfl ?_ rfl howna'.out hBa.out.size ?_ ?_)
    · rfl
    · have := hSl.out; omega
    intro v3 w3 hown3 hg3
    have hb3 := hg3.belowR howna'.out hBa.out.size
    have hfin : Below w.heap.size w w3 := hBa.out.trans hb3
    clear hg3 hb3 hBa2
    replace hfin := hide hfin
    replace hown3 := hide hown3
    go_wp2_with fail
    go_ret
    exact ⟨v3, rfl, hown3.out, hfin.out⟩
/-- A check behind changes of words, each from one to another one. -/
def wordsT : Nat → List Nat → List Nat → Nat
  | c, f :: fs, t :: ts => wordsT (Sum.turnN c f t) fs ts
  | c, _, _ => c
theorem wordsT_le : ∀ (fs ts : List Nat) (c : Nat), c ≤ 65535 → wordsT c fs ts ≤ 65535
  | [], _, c, h => by simpa [wordsT] using h
  | _ :: _, [], c, h => by simpa [wordsT] using h
  | f :: fs, t :: ts, c, _ => by rw [wordsT]; exact wordsT_le fs ts _ (Sum.turnN_le _ _ _)
theorem wordsT_mod : ∀ (fs ts : List Nat) (c : Nat), fs.length = ts.length → c ≤ 65535 → (∀ f ∈ fs, f ≤ 65535) → (wordsT c fs ts + ts.sum) % 65535 = (c + fs.sum) % 65535
  | [], [], c, _, _, _ => by simp [wordsT]
  | [], _ :: _, _, h, _, _ => by simp at h
  | _ :: _, [], _, h, _, _ => by simp at h
  | f :: fs, t :: ts, c, hl, hc, hf => by
    rw [wordsT, List.sum_cons, List.sum_cons]
    have h1 := wordsT_mod fs ts (Sum.turnN c f t) (by simpa using hl) (Sum.turnN_le _ _ _) (fun x hx => hf x (by simp [hx]))
    have h2 := Sum.turnN_mod c f t hc (hf f (by simp))
    omega
theorem wordsT_snoc : ∀ (fs ts : List Nat) (c f t : Nat), fs.length = ts.length → wordsT c (fs ++ [f]) (ts ++ [t]) = Sum.turnN (wordsT c fs ts) f t
  | [], [], c, f, t, _ => by simp [wordsT]
  | [], _ :: _, _, _, _, h => by simp at h
  | _ :: _, [], _, _, _, h => by simp at h
  | g :: fs, u :: ts, c, f, t, h => by
    simp only [List.cons_append, wordsT]
    exact wordsT_snoc fs ts _ f t (by simpa using h)
theorem take_next {α : Type} {l : List α} {k : Nat} {x : α} (h : l[k]? = some x) : l.take (k + 1) = l.take k ++ [x] := by
  rw [List.take_add_one, h]
  rfl
theorem turn_b (c f t : Nat) (w : World) (hc : c ≤ 65535) (hf : f ≤ 65535) (ht : t ≤ 65535) :
    Calls Try.prog 80 #[.int .u16 (c : Int), .int .u16 (f : Int), .int .u16 (t : Int)] w fun e w' => e = .returned (.int .u16 (Sum.turnN c f t : Nat)) ∧ Below w.heap.size w w' :=
  (Sum.turn_any c f t w hc hf ht).mono fun _ _ h => ⟨h.1, h.2 ▸ Below.refl _ _⟩
set_option maxHeartbeats 4000000 in
theorem twords_any (c : Nat) (A B : Option Addr) (n ca cb : Nat) (fs ts : List Nat) (w : World) (hc : c ≤ 65535) (hf : IsR u16v w w.heap.size A n fs) (ht : IsR u16v w w.heap.size B n ts) (hfl : ∀ f ∈ fs, f ≤ 65535) (htl : ∀ t ∈ ts, t ≤ 65535) (hn : n ≤ 16) (hn0 : 0 < n) :
    Calls Try.prog 59 #[.int .u16 (c : Int), .slice A n ca, .slice B n cb] w fun e w' => e = .returned (.int .u16 (wordsT c fs ts : Nat)) ∧ Below w.heap.size w w' := by
  have hfn := hf.len
  have htn := ht.len
  obtain ⟨ba, oa, xa, rfl, -⟩ := hf.at hn0
  obtain ⟨bb, ob, xb, rfl, -⟩ := ht.at hn0
  replace hf := hide hf
  replace ht := hide ht
  replace hfl := hide hfl
  replace htl := hide htl
  replace hfn := hide hfn
  replace htn := hide htn
  go_enter Try.func59, Try.ntmps59
  go_wp2_with fail
  go_loopw [0, 7] (fun v i wr => ∃ k : Nat, k ≤ n ∧ i = .int .i64 (k : Int) ∧ v = .int .u16 (wordsT c (fs.take k) (ts.take k) : Nat) ∧ Below w.heap.size w wr) (fun _ i _ => n - (intOf i).toNat)
  case atStart => exact ⟨0, Nat.zero_le _, rfl, by simp [wordsT], Below.refl _ _⟩
  case round =>
    obtain ⟨k, hk, rfl, rfl, hbr⟩ := hrel
    by_cases hlt : k < n
    · obtain ⟨_, _, f, e1, _, hfk, hcf⟩ := (hf.out.on hbr).at hlt
      cases e1
      obtain ⟨_, _, t, e2, _, htk, hct⟩ := (ht.out.on hbr).at hlt
      cases e2
      have hf5 := hfl.out f (List.mem_of_getElem? hfk)
      have ht5 := htl.out t (List.mem_of_getElem? htk)
      obtain ⟨q, hq⟩ : ∃ q, wordsT c (fs.take k) (ts.take k) = q := ⟨_, rfl⟩
      have hq5 : q ≤ 65535 := hq ▸ wordsT_le _ _ c hc
      have hnext : wordsT c (fs.take (k + 1)) (ts.take (k + 1)) = Sum.turnN q f t := by
        rw [take_next hfk, take_next htk, wordsT_snoc _ _ _ _ _ (by rw [List.length_take, List.length_take, hfn.out, htn.out]), hq]
      rw [hq]
      have i1 : (k : Int) < (n : Int) := by omega
      have i2 : (0 : Int) ≤ (k : Int) := by omega
      unfold u16v at hcf hct
      have hcfL := fun l : Later wr => l.cell hcf
      have hctL := fun l : Later wr => l.cell hct
      have hT := fun w : World => turn_b q f t w hq5 hf5 ht5
      clear hcf hct hfk htk
      replace hbr := hide hbr
      replace hq := hide hq
      replace hnext := hide hnext
      replace hT := hide hT
      go_upto_region 4 with fail
      refine wp_region_L (by as_aux_lemma => kernel_rfl) ?_
      refine wpE_seg 0 11 (fuel := 0) (by as_aux_lemma => kernel_rfl) (fun d _ _ _ _ h => by cases d <;> exact h) (by as_aux_lemma => kernel_rfl) (by as_aux_lemma => kernel_rfl) ?_
      simp only [List.drop_zero, List.take_succ_cons, List.take_zero]
      iterate 9 (refine wpQE_step (fun K hK => ?_); go_simp; refine hK _ ?_; clear hK K)
      (refine wpQE_step (fun K hK => ?_); go_simp; apply Exists.intro; refine ⟨fun l => ?_, hK _ ?_⟩; (go_at_call 80; refine (hT.out l.w).mono ?_; rintro e w' ⟨rfl, hb⟩; exact ⟨rfl, hb⟩); clear hK K)
      iterate 1 (refine wpQE_step (fun K hK => ?_); go_simp; refine hK _ ?_; clear hK K)
      refine wpQE_nil ?_
      refine wpE_done (by as_aux_lemma => kernel_rfl) (fun w5 hb5 => ?_) 0
      have hb6 := hbr.out.trans (hb5.mono hbr.out.size)
      clear hcfL hctL hb5
      replace hb6 := hide hb6
      go_wp2_with fail
      go_roundw
      case rel => exact ⟨k + 1, by omega, by go_num, by rw [hnext.out], hb6.out⟩
      case measure => simp [intOf]; omega
    · obtain rfl : n = k := by omega
      have e1 : fs.take n = fs := List.take_of_length_le (by have := hfn.out; omega)
      have e2 : ts.take n = ts := List.take_of_length_le (by have := htn.out; omega)
      rw [e1, e2]
      clear e1 e2
      replace hbr := hide hbr
      go_wp2_with fail
      go_ret
      exact ⟨rfl, hbr.out⟩
set_option maxHeartbeats 4000000 in
theorem check_any (A P Q : Option Addr) (n c p m ca cb : Nat) (pi : Int) (hpi : pi = (p : Int)) (xs : List UInt8) (fs ts : List Nat) (w : World) (hx : IsB w w.heap.size A n xs) (hn : n ≤ 65535) (hp : p + 2 ≤ n) (hf : IsR u16v w w.heap.size P m fs) (ht : IsR u16v w w.heap.size Q m ts) (hfl : ∀ f ∈ fs, f ≤ 65535) (htl : ∀ t ∈ ts, t ≤ 65535) (hm : m ≤ 16) (hm0 : 0 < m) :
    Calls Try.prog 34 #[.slice A n c, .int .i64 pi, .slice P m ca, .slice Q m cb] w fun e w' => ∃ v, e = .returned v ∧ OwnB w' w.heap.size v (setB xs p (beB (wordsT (beN xs p 2) fs ts) 2)) ∧ Below w.heap.size w w' := by
  subst hpi
  obtain ⟨q, hq⟩ : ∃ q, beN xs p 2 = q := ⟨_, rfl⟩
  have hq5 : q ≤ 65535 := by have := beN_lt xs p 2; omega
  have hA := Octet.at_lit (p : Int) 2 p 2 rfl rfl A n c xs w hx (by unfold maxLen; omega) (by omega) (by omega)
  obtain ⟨r, hr⟩ : ∃ r, wordsT q fs ts = r := ⟨_, rfl⟩
  have hr5 : r ≤ 65535 := hr ▸ wordsT_le _ _ q hq5
  have hT := twords_any q P Q m ca cb fs ts w hq5 hf ht hfl htl hm hm0
  rw [hq] at hA ⊢
  rw [hr] at hT ⊢
  replace hx := hide hx
  replace hf := hide hf
  replace ht := hide ht
  replace hfl := hide hfl
  replace htl := hide htl
  replace hq := hide hq
  replace hr := hide hr
  replace hA := hide hA
  replace hT := hide hT
  go_enter Try.func34, Try.ntmps34
  go_wp2_with fail
  refine hA.out.mono ?_
  rintro e w' ⟨rfl, rfl⟩
  go_wp2_with fail
  refine hT.out.mono ?_
  rintro e w2 ⟨rfl, hb2⟩
  go_wp2_with fail
  refine (set_in A n c xs p r 2 _ _ _ rfl rfl rfl _ (hx.out.on hb2) (by omega) (by omega) (by omega) (by omega) (by omega)).mono ?_
  rintro e w3 ⟨v3, rfl, hown3, hb3⟩
  have hB3 := hb2.trans (hb3.mono hb2.size)
  have hown := hown3.weaken hb2.size
  clear hown3 hb3 hb2
  replace hB3 := hide hB3
  replace hown := hide hown
  go_wp2_with fail
  go_ret
  exact ⟨v3, rfl, hown.out, hB3.out⟩
end Nat15
end Go.Proofs.Ytfmmmjaficbchaa
/- addr.Bytes by contract. Conditions: numbers of 64 bits. -/
namespace Go.Proofs.Ytfmmmjaficbchaa
open Go.RowKit Go.ChangeShapes Go.WideShapes Go.ChangeAt Go.Deep
set_option maxHeartbeats 2000000 in
theorem addrPut_any (base : Nat) (v : Value) (xs : List UInt8) (N k : Nat) (w : World) (hown : OwnB w base v xs) (hbase : base ≤ w.heap.size) (_hN : N < 18446744073709551616) (hk : k ≤ 8) (hl : xs.length ≤ 549755813888) :
    Calls Try.prog 57 #[v, .int .u64 (N : Int), .int .i64 (k : Int)] w fun e w' => ∃ v', e = .returned v' ∧ OwnB w' base v' (xs ++ beB N k) ∧ Grew w v w' v' := by
  go_enter Try.func57, Try.ntmps57
  go_wp2_with fail
  go_loopw [0, 7] (fun u i wr => ∃ (j : Nat) (pre : List UInt8), j ≤ k ∧ i = .int .i64 ((j : Int) - 1) ∧ pre ++ beB N j = beB N k ∧ OwnB wr base u (xs ++ pre) ∧ Grew w v wr u) (fun _ i _ => (intOf i + 1).toNat)
  case atStart => exact ⟨k, [], Nat.le_refl _, rfl, rfl, by simpa using hown, Grew.refl _ _⟩
  case round =>
    obtain ⟨j, pre, hj, rfl, hpre, hu, hg⟩ := hrel
    have hpl : pre.length ≤ 8 := by
      have := congrArg List.length hpre
      rw [List.length_append, beB_length, beB_length] at this
      omega
    replace hpre := hide hpre
    replace hu := hide hu
    replace hg := hide hg
    rcases j with _ | i
    · go_wp2_with fail
      go_ret
      have h1 := hpre.out
      simp only [beB, List.append_nil] at h1
      exact ⟨_, rfl, h1 ▸ hu.out, hg.out⟩
    · have e1 : (((i + 1 : Nat) : Int) - 1) = (i : Int) := by omega
      rw [e1]
      have hps := pow_shift i (by omega)
      go_wp2_with (at_builtin; refine wpl_lit_bv rfl (.tmp 14) (.tmp 20) rfl base _ (xs ++ pre) [UInt8.ofNat (N / 256 ^ i)] 1 1 rfl rfl ?_ rfl ?_ ?_ ?_ ?_)
      · rw [List.map_cons, List.map_nil, ← u8v_mod]
        congr 3
        rw [Int.pow_mul]
        simp
      · exact hu.out
      · have := hg.out.grown.size
        omega
      · rw [List.length_append]; omega
      intro v' w' hown' hg'
      go_wp2_with fail
      refine ⟨⟨i, pre ++ [UInt8.ofNat (N / 256 ^ i)], by omega, by go_num, ?_, ?_, hg.out.trans hg'⟩, by simp [intOf] <;> omega⟩
      · have h1 := hpre.out
        simp only [beB] at h1
        rw [← h1]; simp
      · simpa using hown'
theorem addrPut_lit (Ni ki : Int) (N k : Nat) (hNi : Ni = (N : Int)) (hki : ki = (k : Int)) (base : Nat) (v : Value) (xs : List UInt8) (w : World) (hown : OwnB w base v xs) (hbase : base ≤ w.heap.size) (hN : N < 18446744073709551616) (hk : k ≤ 8) (hl : xs.length ≤ 549755813888) :
    Calls Try.prog 57 #[v, .int .u64 Ni, .int .i64 ki] w fun e w' => ∃ v', e = .returned v' ∧ OwnB w' base v' (xs ++ beB N k) ∧ Grew w v w' v' := by
  subst hNi hki
  exact addrPut_any base v xs N k w hown hbase hN hk hl
/-- An address's bytes. -/
def addrB (v6 : Bool) (hi lo : Nat) : List UInt8 := if v6 then beB hi 8 ++ beB lo 8 else beB lo 4
theorem addrB_length (v6 : Bool) (hi lo : Nat) : (addrB v6 hi lo).length ≤ 16 := by
  unfold addrB
  split <;> simp [beB_length]
set_option maxHeartbeats 2000000 in
theorem addrBytes_any (v6 : Bool) (hi lo : Nat) (w : World) (h1 : hi < 18446744073709551616) (h2 : lo < 18446744073709551616) :
    Calls Try.prog 32 #[addrV v6 hi lo] w fun e w' => ∃ v, e = .returned v ∧ OwnB w' w.heap.size v (addrB v6 hi lo) ∧ Below w.heap.size w w' := by
  have hbox := blk_new w 26 #[.bool v6, .int .u64 hi, .int .u64 lo]
  obtain ⟨w1, hw1⟩ : ∃ w1, w.alloc (.cells #[.bool v6, .int .u64 hi, .int .u64 lo] 26) = w1 := ⟨_, rfl⟩
  have hb1 : Below w.heap.size w w1 := hw1 ▸ (Below.refl _ _).alloc (Nat.le_refl _) _
  have hlt : w.heap.size < w1.heap.size := by rw [← hw1]; simp
  rw [hw1] at hbox
  have hcg := blk_cell hbox
  replace hb1 := hide hb1
  replace hbox := hide hbox
  rcases v6 with _ | _
  · unfold addrV
    go_enter Try.func32, Try.ntmps32
    go_wp2_with fail
    refine (addrPut_lit _ _ lo 4 rfl rfl w1.heap.size _ [] _ (OwnB.nil _ _) (Nat.le_refl _) h2 (by omega) (by simp)).mono ?_
    rintro e w2 ⟨v2, rfl, hown, hg⟩
    have hb2 := hg.belowNil
    replace hown := hide hown
    replace hb2 := hide hb2
    clear hg
    go_wp2_with fail
    go_ret
    exact ⟨_, rfl, by simpa [addrB] using hown.out.weaken (Nat.le_of_lt hlt), hb1.out.trans (hb2.out.mono (Nat.le_of_lt hlt))⟩
  · unfold addrV
    have hcl : ∀ (l : Later w1) (o : Nat), l.w.cell? ⟨w.heap.size, o, none⟩ = _ := fun l o => blk_cell (blk_below l.hb hlt hbox.out) o
    go_enter Try.func32, Try.ntmps32
    go_wp2_with fail
    clear hw1
    refine wp_region_L (by kernel_rfl) ?_
    refine wpE_seg 0 2 (fuel := 5) (by kernel_rfl) (fun d _ _ _ _ h => by cases d <;> exact h) (by kernel_rfl) (by kernel_rfl) ?_
    simp only [List.drop_zero, List.take_succ_cons, List.take_zero]
    iterate 2 (refine wpQE_step (fun K hK => ?_); go_simp; refine hK _ ?_; clear hK K)
    refine wpQE_nil ?_
    refine wpE_seg 3 2 (fuel := 3) (by kernel_rfl) (fun d _ _ _ _ h => by cases d <;> exact h) (by kernel_rfl) (by kernel_rfl) ?_
    simp only [List.drop_succ_cons, List.drop_zero, List.take_succ_cons, List.take_zero]
    iterate 2 (refine wpQE_step (fun K hK => ?_); go_simp; refine hK _ ?_; clear hK K)
    refine wpQE_nil ?_
    clear hcl
    refine wpE_step 2 (fuel := 2) rfl (by kernel_rfl) (fun l K hK => ?_)
    go_simp
    go_at_call 57
    refine (addrPut_lit _ _ hi 8 rfl rfl l.w.heap.size _ [] _ (OwnB.nil _ _) (Nat.le_refl _) h1 (by omega) (by simp)).mono ?_
    rintro e w2 ⟨v2, rfl, hown, hg⟩
    have hb2 := hg.belowNil
    clear hg
    refine hK _ _ hb2 ?_
    clear hK K
    refine wpE_end (by kernel_rfl) (fun l2 => ?_)
    have hown2 := hown.below l2.hb
    have hb3 : Below w1.heap.size w1 l2.w := (l.hb.trans (hb2.mono l.hb.size)).trans (l2.hb.mono (Nat.le_trans l.hb.size hb2.size))
    refine wpT_step 5 rfl (by kernel_rfl) (fun K hK => ?_)
    go_simp
    go_at_call 57
    refine (addrPut_lit _ _ lo 8 rfl rfl l.w.heap.size _ _ _ hown2 (Nat.le_trans hb2.size l2.hb.size) h2 (by omega) (by simp [beB_length])).mono ?_
    rintro e w4 ⟨v4, rfl, hown4, hg4⟩
    have hb4 := hg4.below hown2 (Nat.le_trans hb2.size l2.hb.size)
    refine hK _ _ ?_
    clear hK K
    refine wpT_step 6 rfl (by kernel_rfl) (fun K hK => ?_)
    go_simp
    refine hK _ _ ?_
    clear hK K
    refine wpT_done (by kernel_rfl) ?_ 0
    have hbf := hb1.out.trans ((hb3.trans (hb4.mono l.hb.size)).mono (Nat.le_of_lt hlt))
    have hof := hown4.weaken (Nat.le_trans (Nat.le_of_lt hlt) l.hb.size)
    clear hown hown2 hg4 hb4 hown4 hb2 hb3
    replace hbf := hide hbf
    replace hof := hide hof
    go_wp2_with fail
    go_ret
    exact ⟨_, rfl, by simpa [addrB] using hof.out, hbf.out⟩
end Go.Proofs.Ytfmmmjaficbchaa
/- icmp.Parse and what its statement's text uses, by contract. Conditions: slices of bytes that read as lists. -/
namespace Go.Proofs.Ytfmmmjaficbchaa
open Go.RowKit Go.ChangeShapes Go.WideShapes Go.ChangeAt Go.Deep
namespace Icmp
/-- What a message is that bytes of 8 at least are. -/
def msgV (xs : List UInt8) (A : Option Addr) (m c : Nat) : Value := .agg #[.int .i64 ((xs.getD 0 0).toNat : Nat), .int .i64 ((xs.getD 1 0).toNat : Nat), .int .u32 (beN xs 4 4 : Nat), .slice A m c]
def msg0 : Value := .agg #[.int .i64 0, .int .i64 0, .int .u32 0, .slice none 0 0]
theorem parse_short (A P : Option Addr) (n c m d : Nat) (w : World) (hn : n < 8) :
    Calls Try.prog 95 #[.slice A n c, .slice P m d] w fun e w' => e = .returned (.tuple #[msg0, .int .i64 2]) ∧ Below w.heap.size w w' := by
  go_enter Try.func95, Try.ntmps95
  go_wp2
  exact bodyPost_ret (v := .tuple #[msg0, .int .i64 2]) (by simp [results, Try.results95, go_sem, msg0]) rfl ⟨rfl, (Below.refl _ _).alloc (Nat.le_refl _) _⟩
theorem isP_two {w : World} (b : Nat) (hb : w.heap.size = b) {t : TypeId} {A P : Option Addr} {n c m d : Nat} {xs ps : List UInt8} (hx : IsB w w.heap.size A n xs) (hp : IsB w w.heap.size P m ps) (hn : n ≤ maxLen) (hm : m ≤ maxLen) :
    Sum.IsP (w.alloc (.cells #[.slice P m d, .slice A n c] t)) (w.alloc (.cells #[.slice P m d, .slice A n c] t)).heap.size (some ⟨b, 0, none⟩) 2 [⟨P, d, ps⟩, ⟨A, c, xs⟩] := by
  have e1 := hx.1
  have e2 := hp.1
  subst e1 e2 hb
  refine ⟨rfl, fun _ => ⟨w.heap.size, 0, rfl, by simp, fun i hi => ?_⟩, fun p hmem => ?_⟩
  · rw [blk_cell (blk_new _ _ _) (0 + i)]
    have hi' : i = 0 ∨ i = 1 := by simp at hi; omega
    rcases hi' with rfl | rfl <;> rfl
  · simp only [List.mem_cons, List.not_mem_nil, or_false] at hmem
    rcases hmem with rfl | rfl
    · exact ⟨hp.alloc _, hm⟩
    · exact ⟨hx.alloc _, hn⟩
set_option maxHeartbeats 1000000 in
theorem parse_sum (A P : Option Addr) (n c m d : Nat) (xs ps : List UInt8) (w : World) (hx : IsB w w.heap.size A n xs) (hp : IsB w w.heap.size P m ps) (hn : 8 ≤ n) (hnm : n ≤ maxLen) (hm : m ≤ maxLen) (hs : Sum.ones (Sum.tot false (ps ++ xs)) ≠ 65535) :
    Calls Try.prog 95 #[.slice A n c, .slice P m d] w fun e w' => e = .returned (.tuple #[msg0, .int .i64 13]) ∧ Below w.heap.size w w' := by
  have hx1 := hx.alloc (.cells #[.int .i64 0, .int .i64 0, .int .u32 0, .slice none 0 0] 138)
  have hp1 := hp.alloc (.cells #[.int .i64 0, .int .i64 0, .int .u32 0, .slice none 0 0] 138)
  have hps := isP_two (w.heap.size + 1) (by simp) (t := 22) (c := c) (d := d) hx1 hp1 hnm hm
  have hr : decide (Sum.ones (Sum.tot false (Sum.flat [⟨P, d, ps⟩, ⟨A, c, xs⟩])) = 65535) = false := by simpa [Sum.flat] using hs
  replace hps := hide hps
  replace hr := hide hr
  replace hx := hide hx
  replace hp := hide hp
  replace hx1 := hide hx1
  replace hp1 := hide hp1
  unfold maxLen at hnm
  go_enter Try.func95, Try.ntmps95
  go_wp2_with (go_at_call 81; refine (Sum.right_any _ _ _ _ _ hps.out (by unfold maxLen; omega) false hr.out).mono ?_; rintro e w' ⟨rfl, rfl⟩)
  exact bodyPost_ret (v := .tuple #[msg0, .int .i64 13]) (by simp [results, Try.results95, go_sem, msg0]) rfl ⟨rfl, ((Below.refl _ _).alloc (Nat.le_refl _) _).alloc (by simp) _⟩
set_option maxHeartbeats 2000000 in
theorem parse_ok (A P : Option Addr) (n c m d : Nat) (xs ps : List UInt8) (w : World) (hx : IsB w w.heap.size A n xs) (hp : IsB w w.heap.size P m ps) (hn : 8 ≤ n) (hnc : n ≤ c) (hnm : n ≤ 1099511627776) (hm : m ≤ maxLen) (hs : Sum.ones (Sum.tot false (ps ++ xs)) = 65535) :
    Calls Try.prog 95 #[.slice A n c, .slice P m d] w fun e w' => ∃ A' m' c', e = .returned (.tuple #[msgV xs A' m' c', .int .i64 0]) ∧ IsB w' w'.heap.size A' m' (xs.drop 8) ∧ m' ≤ c' ∧ c' ≤ maxLen ∧ Below w.heap.size w w' := by
  have hx1 := hx.alloc (.cells #[.int .i64 0, .int .i64 0, .int .u32 0, .slice none 0 0] 138)
  have hp1 := hp.alloc (.cells #[.int .i64 0, .int .i64 0, .int .u32 0, .slice none 0 0] 138)
  have hx2 := hx1.alloc (.cells #[.slice P m d, .slice A n c] 22)
  have hps := isP_two (w.heap.size + 1) (by simp) (t := 22) (c := c) (d := d) hx1 hp1 (by unfold maxLen; omega) hm
  have hr : decide (Sum.ones (Sum.tot false (Sum.flat [⟨P, d, ps⟩, ⟨A, c, xs⟩])) = 65535) = true := by simpa [Sum.flat] using hs
  obtain ⟨b, off, v0, rfl, hbl, hv0, hv0l, hc0⟩ := hx2.byte (i := 0) (by omega)
  obtain ⟨v1, hv1, hv1l, hc1⟩ := hx2.byteAt (i := 1) (by omega)
  have hbe := Octet.beN_bd8 xs 4 4 (by omega)
  have hbe4 : beN xs 4 4 < 4294967296 := beN_lt xs 4 4
  rw [Nat.add_zero] at hc0
  replace hps := hide hps
  replace hr := hide hr
  replace hs := hide hs
  replace hx := hide hx
  replace hp := hide hp
  replace hx1 := hide hx1
  replace hx2 := hide hx2
  replace hp1 := hide hp1
  replace hv0 := hide hv0
  replace hv1 := hide hv1
  replace hbe := hide hbe
  go_enter Try.func95, Try.ntmps95
  go_wp2_with (go_at_call 81; refine (Sum.right_any _ _ _ _ _ hps.out (by unfold maxLen; omega) true hr.out).mono ?_; rintro e w' ⟨rfl, rfl⟩)
  obtain ⟨w2, hw2⟩ : ∃ w2, ((w.alloc (.cells #[.int .i64 0, .int .i64 0, .int .u32 0, .slice none 0 0] 138)).alloc (.cells #[.slice P m d, .slice (some ⟨b, off, none⟩) n c] 22)) = w2 := ⟨_, rfl⟩
  have hb2 : Below w.heap.size w w2 := hw2 ▸ ((Below.refl _ _).alloc (Nat.le_refl _) _).alloc (by simp) _
  have hg2 : w2.heap[w.heap.size]? = some (.cells #[.int .i64 0, .int .i64 0, .int .u32 0, .slice none 0 0] 138 (0, 0)) := hw2 ▸ blk_old _ (by simp) (blk_new _ _ _)
  have hlt2 : w.heap.size < w2.heap.size := by rw [← hw2]; simp; omega
  rw [hw2] at hc0 hc1 hx2 ⊢
  clear hw2 hps hx1 hp1
  replace hb2 := hide hb2
  have hd0 : ∀ l : Later w2, l.w.cell? ⟨b, off, none⟩ = some (.int .u8 (v0 : Nat)) := fun l => l.cell hc0
  have hd1 : ∀ l : Later w2, l.w.cell? ⟨b, off + 1, none⟩ = some (.int .u8 (v1 : Nat)) := fun l => l.cell hc1
  clear hc0 hc1
  have hj0 : 0 < n := by omega
  have hj1 : 1 < n := by omega
  have hi0 : (0 : Int) < (n : Int) := by omega
  have hi1 : (1 : Int) < (n : Int) := by omega
  have hi8 : (8 : Int) ≤ (n : Int) := by omega
  obtain ⟨A8, hA8⟩ : ∃ A8, (if c = 8 then some (⟨b, off, none⟩ : Addr) else some ⟨b, off + 8, none⟩) = A8 := ⟨_, rfl⟩
  have hx8 : IsB w2 w2.heap.size A8 (n - 8) (xs.drop 8) := by
    have h8 := hx2.out.cut (k := 8) (m := n) (cap := c) (by omega) (Nat.le_refl _) hnc
    rw [List.take_of_length_le (by rw [hx2.out.1]; omega)] at h8
    rw [← hA8]
    exact h8
  replace hx8 := hide hx8
  refine wp_region_L (by kernel_rfl) ?_
  refine wpE_seg 0 13 (fuel := 4) (by kernel_rfl) (fun d _ _ _ _ h => by cases d <;> exact h) (by kernel_rfl) (by kernel_rfl) ?_
  simp only [List.drop_zero, List.take_succ_cons, List.take_zero]
  repeat (refine wpQE_step (fun K hK => ?_); go_simp; (try go_bits); first | (refine hK _ ?_; clear hK K) | (apply Exists.intro; refine ⟨fun l => ?_, hK _ ?_⟩; (go_at_call 36; refine (Octet.at_lit _ _ 4 4 rfl rfl _ _ _ xs _ (IsB.later hx2.out l) (by unfold maxLen; omega) (by omega) (by omega)).mono ?_; rintro e w' ⟨rfl, rfl⟩; exact ⟨rfl, lt_refl _⟩); clear hK K))
  refine wpQE_nil ?_
  refine wpE_step 13 (fuel := 3) rfl (by kernel_rfl) (fun l K hK => ?_)
  go_simp
  go_at_call 83
  refine (clone_any _ _ _ (xs.drop 8) _ ?_ (by omega)).mono ?_
  · exact IsB.later hx8.out l
  rintro e w3 ⟨v, rfl, hown, hb3⟩
  refine hK _ _ hb3 ?_
  clear hK K
  obtain ⟨A', c', rfl, hc', hm', hi'⟩ := hown.form
  refine wpE_seg 14 1 (fuel := 2) (by kernel_rfl) (fun d _ _ _ _ h => by cases d <;> exact h) (by kernel_rfl) (by kernel_rfl) ?_
  simp only [List.drop_succ_cons, List.drop_zero, List.take_succ_cons, List.take_zero]
  repeat (refine wpQE_step (fun K hK => ?_); go_simp; (try go_bits); first | (refine hK _ ?_; clear hK K))
  refine wpQE_nil ?_
  refine wpE_end (by kernel_rfl) (fun l2 => ?_)
  have hg3 : l2.w.heap[w.heap.size]? = some (.cells #[.int .i64 0, .int .i64 0, .int .u32 0, .slice none 0 0] 138 (0, 0)) :=
    blk_below l2.hb (Nat.lt_of_lt_of_le hlt2 (Nat.le_trans l.hb.size hb3.size)) (blk_below hb3 (Nat.lt_of_lt_of_le hlt2 l.hb.size) (blk_below l.hb hlt2 hg2))
  have hcg := blk_cell hg3
  have hfg := blk_free hg3
  have hb4 : Below w.heap.size w l2.w := ((hb2.out.trans (l.hb.mono (by omega))).trans (hb3.mono (Nat.le_trans (Nat.le_of_lt hlt2) l.hb.size))).trans (l2.hb.mono (Nat.le_trans (Nat.le_of_lt hlt2) (Nat.le_trans l.hb.size hb3.size)))
  replace hg3 := hide hg3
  replace hb4 := hide hb4
  refine wpT_step 15 rfl (by kernel_rfl) (fun K hK => ?_)
  go_simp
  refine hK _ _ ?_
  clear hK K
  refine wpT_step 16 rfl (by kernel_rfl) (fun K hK => ?_)
  go_simp
  refine hK _ _ ?_
  clear hK K
  refine wpT_done (by kernel_rfl) ?_ 0
  go_wp2
  have hown4 := hown.below l2.hb
  have hgr := grown_set (g := w.heap.size) (grown_set (grown_set (grown_set (grown_refl l2.w _) (p := ⟨w.heap.size, 0, none⟩) rfl (.int .i64 (v0 : Nat))) (p := ⟨w.heap.size, 1, none⟩) rfl (.int .i64 (v1 : Nat))) (p := ⟨w.heap.size, 2, none⟩) rfl (.int .u32 (beN xs 4 4 : Nat))) (p := ⟨w.heap.size, 3, none⟩) rfl (.slice A' (xs.drop 8).length c')
  have hown5 := hown4.kept hgr (by
    rcases hob : (Value.slice A' (xs.drop 8).length c').ownBlock with _ | k
    · exact .inl rfl
    · right
      intro e
      have h1 := (hown.lt k hob).1
      have h2 := l.hb.size
      cases e
      omega)
  obtain ⟨_, h5, h6, h7⟩ := hown5.reads
  simp only [List.length_drop] at h5 h7
  have hmv : msgV xs A' (xs.length - 8) c' = .agg #[.int .i64 (v0 : Nat), .int .i64 (v1 : Nat), .int .u32 (beN xs 4 4 : Nat), .slice A' (xs.length - 8) c'] := by unfold msgV; rw [hv0.out, hv1.out]
  refine bodyPost_ret (v := .tuple #[.agg #[.int .i64 (v0 : Nat), .int .i64 (v1 : Nat), .int .u32 (beN xs 4 4 : Nat), .slice A' (xs.length - 8) c'], .int .i64 0]) (by simp [results, Try.results95, go_sem, hcg]) rfl ⟨A', _, c', by rw [hmv], ?_, h5, h6, ?_⟩
  · simpa only [List.length_drop] using h7
  · exact (((hb4.out.setCell (p := ⟨w.heap.size, 0, none⟩) (Nat.le_refl _) _).setCell (p := ⟨w.heap.size, 1, none⟩) (Nat.le_refl _) _).setCell (p := ⟨w.heap.size, 2, none⟩) (Nat.le_refl _) _).setCell (p := ⟨w.heap.size, 3, none⟩) (Nat.le_refl _) _
end Icmp
end Go.Proofs.Ytfmmmjaficbchaa
/- make of a slice of bytes. Condition: at most 2^40. -/
namespace Go.Proofs.Ytfmmmjaficbchaa
open Go.RowKit Go.ChangeShapes Go.WideShapes Go.ChangeAt Go.Deep
theorem make_bytes (n : Nat) (hn : n ≤ 1099511627776) (w : World) : ∃ w', (Instr.makeSlice 22 (.int .i64 (n : Int)) (.int .i64 (n : Int))).run Try.prog w = .ok (.slice (some ⟨w.heap.size, 0, none⟩) n n) w' ∧
    OwnB w' w.heap.size (.slice (some ⟨w.heap.size, 0, none⟩) n n) (List.replicate n 0) ∧ Below w.heap.size w w' := by
  have hi := info_u8
  cases hq : Try.prog.info? 5 with
  | none => rw [hq] at hi; simp at hi
  | some i =>
    rw [hq] at hi
    simp only [Option.map_some, Option.some.injEq, Prod.mk.injEq] at hi
    obtain ⟨hz, hs, hb⟩ := hi
    obtain ⟨w', h1, h2, h3⟩ := run_make_full (P := Try.prog) (w := w) w.heap.size 22 5 i (.int .u8 0) 1 Try.underlying22 hq hz hs .i64 .i64 n (by rw [hb]; omega) (by unfold maxLen; omega) (Nat.le_refl _)
    refine ⟨w', h1, ?_, below_of_grown h3 (Nat.le_refl _) (fun k hk => by cases hk)⟩
    unfold OwnB
    rw [List.length_replicate, List.map_replicate]
    rw [show (Value.int IntKind.u8 0).cells = #[.int .u8 0] from rfl, Nat.mul_one, toList_madeCells_one] at h2
    exact h2
end Go.Proofs.Ytfmmmjaficbchaa
