/- octet.All over numbers that stand written out. Conditions: as octet.All. -/
import Derived.Test.YtniieckjooahfaaAll
namespace Go.Proofs.Ytniieckjooahfaa
open Go.RowKit Go.ChangeShapes Go.WideShapes Go.ChangeAt Go.Deep
theorem Grew.ofAlloc {w w' : World} {o : Obj} {v v' : Value} (h : Grew (w.alloc o) v w' v') : Grew w v w' v' :=
  ⟨grown_alloc_left h.grown, h.moved.imp id fun ⟨k, e, hk⟩ => ⟨k, e, by simp at hk; omega⟩⟩
theorem all_lit (base : Nat) (v : Value) (xs : List UInt8) (k : Nat) (ki : Int) (hki : ki = (k : Int)) (ns : List Nat) (vals : List Value) (hv : vals = ns.map u64v) (m c : Nat) (hm : ns.length = m) (t : TypeId) (w : World) (b : Nat) (hb : w.heap.size = b)
    (hown : OwnB w base v xs) (hbase : base ≤ w.heap.size) (hk : k ≤ 8) (hl : xs.length ≤ 274877906944) (hn : m ≤ 65536) (hN : ∀ N ∈ ns, N < 18446744073709551616) :
    Calls Try.prog 97 #[v, .int .i64 ki, .slice (some ⟨b, 0, none⟩) m c] (w.alloc (.cells vals.toArray t)) fun e w' => ∃ v', e = .returned v' ∧ OwnB w' base v' (xs ++ allB k ns) ∧ Grew w v w' v' := by
  subst hv hm hb
  refine (all_any base v xs k ki hki (some ⟨w.heap.size, 0, none⟩) ns.length c ns (w.alloc (.cells (ns.map u64v).toArray t)) (hown.alloc _) (by simp; omega) hk hl (w.heap.size + 1) (IsV.lit w t _ c _ (by simp)) ?_ (by simp) hn hN).mono ?_
  · intro b off e he
    have := (hown.lt b he.symm).2
    cases e
    omega
  · rintro e w' ⟨v', rfl, h1, h2⟩
    exact ⟨v', rfl, h1, h2.ofAlloc⟩
end Go.Proofs.Ytniieckjooahfaa
