/- count.Board (In, Out, Of, Sum, Clear) by contract, and sync/atomic's Add and Swap beneath. Condition: a board of 29 numbers. -/
import Derived.Test.YtniieckjooahfaaCountNil
namespace Go.Proofs.Ytniieckjooahfaa
open Go.RowKit Go.ChangeShapes Go.WideShapes Go.ChangeAt Go.Deep
section
variable {P : Program} {f : FuncId} {fn : Func}
/-- sync/atomic.SwapT: the new one is stored; what the cell held is handed back. -/
theorem run_call_swap (hf : P.funcs[f]? = some fn) (hname : (fn.name == "runtime.NumGoroutine") = false) (hb : fn.body.isNone = true) (hn : Extern.findNext fn = none) (k : IntKind)
    (he : Extern.find fn = some (Extern.Atomic.swapT (.int k))) {a : Addr} {x y : Int} {w : World} (hc : w.cell? a = some (.int k x)) (hz : w.frozen? a = false) :
    (callFunc f #[.pointer (some a), .int k y]).run P w = .ok (.value (.int k x)) (w.setCell a (.int k y)) := by
  rw [run_callFunc_extern hf hname hb hn he]
  change (Sem.run P (do
    let a' ← asAddr (.pointer (some a))
    let old ← Extern.Atomic.read (.int k) a'
    store a' (.int k y) .atomic
    pure old) w).andThen _ = _
  simp [Extern.Atomic.read, asAddr, hc, hz, run_store P w a (.int k y) .atomic rfl, Result.andThen]
end
namespace Atomic
theorem add_name : (Try.f107.name == "runtime.NumGoroutine") = false := by kernel_rfl
theorem add_body : Try.f107.body.isNone = true := by kernel_rfl
theorem add_next : Extern.findNext Try.f107 = none := by kernel_rfl
theorem add_find : Extern.find Try.f107 = some (Extern.Atomic.update (Op.intArith .add) .i64 true) := by kernel_rfl
theorem swap_name : (Try.f108.name == "runtime.NumGoroutine") = false := by kernel_rfl
theorem swap_body : Try.f108.body.isNone = true := by kernel_rfl
theorem swap_next : Extern.findNext Try.f108 = none := by kernel_rfl
theorem swap_find : Extern.find Try.f108 = some (Extern.Atomic.swapT (.int .i64)) := by kernel_rfl
theorem add_run {a : Addr} {x y : Int} {w : World} (hc : w.cell? a = some (.int .i64 x)) (hz : w.frozen? a = false) : (callFunc 107 #[.pointer (some a), .int .i64 y]).run Try.prog w = .ok (.value (.int .i64 (IntKind.i64.wrap (x + y)))) (w.setCell a (.int .i64 (IntKind.i64.wrap (x + y)))) :=
  run_call_add Try.func107 add_name add_body add_next .i64 add_find hc hz (by simp [Op.intArith])
theorem swap_run {a : Addr} {x y : Int} {w : World} (hc : w.cell? a = some (.int .i64 x)) (hz : w.frozen? a = false) : (callFunc 108 #[.pointer (some a), .int .i64 y]).run Try.prog w = .ok (.value (.int .i64 x)) (w.setCell a (.int .i64 y)) :=
  run_call_swap Try.func108 swap_name swap_body swap_next .i64 swap_find hc hz
theorem add_any (g o : Nat) (x y : Int) (w : World) (hc : w.cell? ⟨g, o, none⟩ = some (.int .i64 x)) (hz : w.frozen? ⟨g, o, none⟩ = false) :
    Calls Try.prog 77 #[.pointer (some ⟨g, o, none⟩), .int .i64 y] w fun e w' => e = .returned (.int .i64 (IntKind.i64.wrap (x + y))) ∧ w.setCell ⟨g, o, none⟩ (.int .i64 (IntKind.i64.wrap (x + y))) = w' := by
  have hrun := add_run (y := y) hc hz
  obtain ⟨s, hs⟩ : ∃ s, IntKind.i64.wrap (x + y) = s := ⟨_, rfl⟩
  rw [hs] at hrun ⊢
  go_enter Try.func77, Try.ntmps77
  go_wp2
  go_ret
  exact ⟨rfl, rfl⟩
theorem swap_any (g o : Nat) (x y : Int) (w : World) (hc : w.cell? ⟨g, o, none⟩ = some (.int .i64 x)) (hz : w.frozen? ⟨g, o, none⟩ = false) :
    Calls Try.prog 78 #[.pointer (some ⟨g, o, none⟩), .int .i64 y] w fun e w' => e = .returned (.int .i64 x) ∧ w.setCell ⟨g, o, none⟩ (.int .i64 y) = w' := by
  have hrun := swap_run (y := y) hc hz
  go_enter Try.func78, Try.ntmps78
  go_wp2
  go_ret
  exact ⟨rfl, rfl⟩
end Atomic
namespace Count
theorem sumA_cell {w : World} {g : Nat} {l : List Int} {t : TypeId} (h : w.heap[g]? = some (.cells (sumA l) t (0, 0))) (hl : l.length = 29) (i : Nat) (hi : i < 29) : w.cell? ⟨g, i, none⟩ = some (.int .i64 (l.getD i 0)) :=
  (blk_cell h i).trans (sumA_get _ _ (by omega))
theorem sumA_there {w : World} {g : Nat} {l : List Int} {t : TypeId} (h : w.heap[g]? = some (.cells (sumA l) t (0, 0))) (hl : l.length = 29) : w.there g 0 29 := fun j hj => by
  rw [Nat.zero_add, sumA_cell h hl j hj, blk_free h]
  simp
/-- One of a board's counters, with so much more. -/
def moreL (l : List Int) (i : Nat) (y : Int) : List Int := l.set i (IntKind.i64.wrap (l.getD i 0 + y))
theorem more_len (l : List Int) (i : Nat) (y : Int) : (moreL l i y).length = l.length := by simp [moreL]
theorem add_at {w : World} {g : Nat} {t : TypeId} {l : List Int} (h : w.heap[g]? = some (.cells (sumA l) t (0, 0))) (hl : l.length = 29) (i : Nat) (hi : i < 29) (y : Int) :
    Calls Try.prog 77 #[.pointer (some ⟨g, i, none⟩), .int .i64 y] w fun e w' => e = .returned (.int .i64 (IntKind.i64.wrap (l.getD i 0 + y))) ∧ w'.heap[g]? = some (.cells (sumA (moreL l i y)) t (0, 0)) ∧ w.grownBy w' (some g) := by
  refine (Atomic.add_any g i _ y w (sumA_cell h hl i hi) (blk_free h i)).mono ?_
  rintro e w' ⟨rfl, rfl⟩
  refine ⟨rfl, ?_, grown_set (grown_refl _ _) rfl _⟩
  rw [blk_set h, sumA_set]
  rfl
theorem swap_at {w : World} {g : Nat} {t : TypeId} {l : List Int} (h : w.heap[g]? = some (.cells (sumA l) t (0, 0))) (hl : l.length = 29) (i : Nat) (hi : i < 29) (y : Int) :
    Calls Try.prog 78 #[.pointer (some ⟨g, i, none⟩), .int .i64 y] w fun e w' => e = .returned (.int .i64 (l.getD i 0)) ∧ w'.heap[g]? = some (.cells (sumA (l.set i y)) t (0, 0)) ∧ w.grownBy w' (some g) := by
  refine (Atomic.swap_any g i _ y w (sumA_cell h hl i hi) (blk_free h i)).mono ?_
  rintro e w' ⟨rfl, rfl⟩
  refine ⟨rfl, ?_, grown_set (grown_refl _ _) rfl _⟩
  rw [blk_set h, sumA_set]
theorem load_at {w : World} {g : Nat} {t : TypeId} {l : List Int} (h : w.heap[g]? = some (.cells (sumA l) t (0, 0))) (hl : l.length = 29) (i : Nat) (hi : i < 29) :
    Calls Try.prog 70 #[.pointer (some ⟨g, i, none⟩)] w fun e w' => e = .returned (.int .i64 (l.getD i 0)) ∧ w = w' :=
  Atomic.load_any g i _ w (sumA_cell h hl i hi)
/-- A packet came, with what it came to. -/
def inL (l : List Int) (n : Int) : List Int := if 0 ≤ n ∧ n < 26 then moreL (moreL l 0 1) (3 + n.toNat) 1 else moreL l 0 1
def outL (l : List Int) (n : Int) : List Int := moreL (moreL l 1 1) 2 (max n 0)
set_option maxRecDepth 4000
theorem in_any (g : Nat) (l : List Int) (n : Int) (w : World) (h : w.heap[g]? = some (.cells (sumA l) 56 (0, 0))) (hl : l.length = 29) :
    Calls Try.prog 27 #[.pointer (some ⟨g, 0, none⟩), .int .i64 n] w fun e w' => e = .returned (.tuple #[]) ∧ w'.heap[g]? = some (.cells (sumA (inL l n)) 56 (0, 0)) ∧ w.grownBy w' (some g) := by
  replace h := hide h
  by_cases hn : 0 ≤ n ∧ n < 26
  · obtain ⟨k, rfl⟩ : ∃ k : Nat, n = (k : Int) := ⟨n.toNat, by omega⟩
    have he : inL l (k : Int) = moreL (moreL l 0 1) (3 + k) 1 := by unfold inL; rw [if_pos hn, Int.toNat_natCast]
    have hk : (k : Int) < 26 := hn.2
    have hk0 : (0 : Int) ≤ (k : Int) := hn.1
    replace he := hide he
    clear hn
    go_enter Try.func27, Try.ntmps27
    go_wp2_with fail
    refine (add_at h.out hl 0 (by omega) 1).mono ?_
    rintro e w1 ⟨rfl, h1, g1⟩
    have z1 := g1.size
    replace h1 := hide h1
    replace g1 := hide g1
    go_wp2_with fail
    refine (add_at h1.out (by rw [more_len]; exact hl) (3 + k) (by omega) 1).mono ?_
    rintro e w2 ⟨rfl, h2, g2⟩
    replace h2 := hide h2
    replace g2 := hide g2
    go_wp2_with fail
    refine bodyPost_end (v := .tuple #[]) (by simp [results, Try.results27, go_sem]) rfl ⟨rfl, by rw [he.out]; exact h2.out, g1.out.trans g2.out⟩
  · have he : inL l n = moreL l 0 1 := by unfold inL; rw [if_neg hn]
    replace he := hide he
    by_cases h0 : 0 ≤ n
    · have hk : ¬ n < 26 := fun h => hn ⟨h0, h⟩
      clear hn
      go_enter Try.func27, Try.ntmps27
      go_wp2_with fail
      refine (add_at h.out hl 0 (by omega) 1).mono ?_
      rintro e w1 ⟨rfl, h1, g1⟩
      replace h1 := hide h1
      replace g1 := hide g1
      go_wp2_with fail
      refine bodyPost_end (v := .tuple #[]) (by simp [results, Try.results27, go_sem]) rfl ⟨rfl, by rw [he.out]; exact h1.out, g1.out⟩
    · clear hn
      go_enter Try.func27, Try.ntmps27
      go_wp2_with fail
      refine (add_at h.out hl 0 (by omega) 1).mono ?_
      rintro e w1 ⟨rfl, h1, g1⟩
      replace h1 := hide h1
      replace g1 := hide g1
      go_wp2_with fail
      refine bodyPost_end (v := .tuple #[]) (by simp [results, Try.results27, go_sem]) rfl ⟨rfl, by rw [he.out]; exact h1.out, g1.out⟩
theorem out_any (g : Nat) (l : List Int) (n : Int) (w : World) (h : w.heap[g]? = some (.cells (sumA l) 56 (0, 0))) (hl : l.length = 29) :
    Calls Try.prog 29 #[.pointer (some ⟨g, 0, none⟩), .int .i64 n] w fun e w' => e = .returned (.tuple #[]) ∧ w'.heap[g]? = some (.cells (sumA (outL l n)) 56 (0, 0)) ∧ w.grownBy w' (some g) := by
  replace h := hide h
  by_cases hn : 0 ≤ n
  · have hm : max n 0 = n := by omega
    have he : outL l n = moreL (moreL l 1 1) 2 n := by unfold outL; rw [hm]
    replace he := hide he
    go_enter Try.func29, Try.ntmps29
    go_wp2_with fail
    refine (add_at h.out hl 1 (by omega) 1).mono ?_
    rintro e w1 ⟨rfl, h1, g1⟩
    replace h1 := hide h1
    replace g1 := hide g1
    go_wp2_with fail
    refine (add_at h1.out (by rw [more_len]; exact hl) 2 (by omega) n).mono ?_
    rintro e w2 ⟨rfl, h2, g2⟩
    replace h2 := hide h2
    replace g2 := hide g2
    go_wp2_with fail
    refine bodyPost_end (v := .tuple #[]) (by simp [results, Try.results29, go_sem]) rfl ⟨rfl, by rw [he.out]; exact h2.out, g1.out.trans g2.out⟩
  · have hm : max n 0 = 0 := by omega
    have he : outL l n = moreL (moreL l 1 1) 2 0 := by unfold outL; rw [hm]
    replace he := hide he
    go_enter Try.func29, Try.ntmps29
    go_wp2_with fail
    refine (add_at h.out hl 1 (by omega) 1).mono ?_
    rintro e w1 ⟨rfl, h1, g1⟩
    replace h1 := hide h1
    replace g1 := hide g1
    go_wp2_with fail
    refine (add_at h1.out (by rw [more_len]; exact hl) 2 (by omega) 0).mono ?_
    rintro e w2 ⟨rfl, h2, g2⟩
    replace h2 := hide h2
    replace g2 := hide g2
    go_wp2_with fail
    refine bodyPost_end (v := .tuple #[]) (by simp [results, Try.results29, go_sem]) rfl ⟨rfl, by rw [he.out]; exact h2.out, g1.out.trans g2.out⟩
/-- How often an error was counted. -/
def ofL (l : List Int) (n : Int) : Int := if 0 ≤ n ∧ n < 26 then l.getD (3 + n.toNat) 0 else 0
theorem of_any (g : Nat) (l : List Int) (n : Int) (w : World) (h : w.heap[g]? = some (.cells (sumA l) 56 (0, 0))) (hl : l.length = 29) :
    Calls Try.prog 31 #[.pointer (some ⟨g, 0, none⟩), .int .i64 n] w fun e w' => e = .returned (.int .i64 (ofL l n)) ∧ w = w' := by
  replace h := hide h
  by_cases hn : 0 ≤ n ∧ n < 26
  · obtain ⟨k, rfl⟩ : ∃ k : Nat, n = (k : Int) := ⟨n.toNat, by omega⟩
    have he : ofL l (k : Int) = l.getD (3 + k) 0 := by unfold ofL; rw [if_pos hn, Int.toNat_natCast]
    have hk : (k : Int) < 26 := hn.2
    have hk0 : (0 : Int) ≤ (k : Int) := hn.1
    rw [he]
    clear hn he
    obtain ⟨x, hx⟩ : ∃ x, l.getD (3 + k) 0 = x := ⟨_, rfl⟩
    have hL := load_at h.out hl (3 + k) (by omega)
    rw [hx] at hL ⊢
    clear hx
    replace hL := hide hL
    go_enter Try.func31, Try.ntmps31
    go_wp2_with fail
    refine hL.out.mono ?_
    rintro e w1 ⟨rfl, rfl⟩
    go_wp2_with fail
    first | (go_ret; exact ⟨rfl, rfl⟩) | (go_ret2; exact ⟨rfl, rfl⟩)
  · have he : ofL l n = 0 := by unfold ofL; rw [if_neg hn]
    rw [he]
    clear he
    by_cases h0 : 0 ≤ n
    · have hk : ¬ n < 26 := fun h => hn ⟨h0, h⟩
      clear hn
      go_enter Try.func31, Try.ntmps31
      go_wp2_with fail
      first | (go_ret; exact ⟨rfl, rfl⟩) | (go_ret2; exact ⟨rfl, rfl⟩)
    · clear hn
      go_enter Try.func31, Try.ntmps31
      go_wp2_with fail
      first | (go_ret; exact ⟨rfl, rfl⟩) | (go_ret2; exact ⟨rfl, rfl⟩)
end Count
end Go.Proofs.Ytniieckjooahfaa
