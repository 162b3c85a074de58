/- octet.All: numbers of one size, put behind a row of bytes. Conditions: the row is the call's own, at most 8 bytes a number, at most 65536 numbers, sizes below 2^38. -/
import Derived.Test.YtniieckjooahfaaPut
namespace Go.Proofs.Ytniieckjooahfaa
open Go.RowKit Go.ChangeShapes Go.WideShapes Go.ChangeAt Go.Deep
def allB (k : Nat) (ns : List Nat) : List UInt8 := ns.flatMap fun N => beB N k
theorem allB_length (k : Nat) (ns : List Nat) : (allB k ns).length = ns.length * k := by
  induction ns with
  | nil => simp [allB]
  | cons N ns ih => simp only [allB, List.flatMap_cons, List.length_append, beB_length, List.length_cons, Nat.succ_mul] at ih ⊢; omega
theorem allB_take (k : Nat) (ns : List Nat) (j : Nat) (h : j < ns.length) : allB k (ns.take (j + 1)) = allB k (ns.take j) ++ beB ns[j] k := by
  unfold allB
  rw [List.take_succ_eq_append_getElem h, List.flatMap_append]
  simp
def u64v (N : Nat) : Value := .int .u64 (N : Int)
set_option maxHeartbeats 2000000 in
theorem all_any (base : Nat) (v : Value) (xs : List UInt8) (k : Nat) (ki : Int) (hki : ki = (k : Int)) (A : Option Addr) (n c : Nat) (ns : List Nat) (w : World) (hown : OwnB w base v xs) (hbase : base ≤ w.heap.size) (hk : k ≤ 8) (hl : xs.length ≤ 274877906944)
    (B : Nat) (hx : IsV w B 1 A n (ns.map u64v)) (hdis : ∀ b off, A = some ⟨b, off, none⟩ → some b ≠ v.ownBlock) (hBz : B ≤ w.heap.size) (hn : n ≤ 65536) (hN : ∀ N ∈ ns, N < 18446744073709551616) :
    Calls Try.prog 97 #[v, .int .i64 ki, .slice A n c] w fun e w' => ∃ v', e = .returned v' ∧ OwnB w' base v' (xs ++ allB k ns) ∧ Grew w v w' v' := by
  subst hki
  have hnl : ns.length = n := by simpa using hx.1
  go_enter Try.func97, Try.ntmps97
  go_wp2_with fail
  go_loopw [0, 11] (fun u i wr => ∃ j : Nat, j ≤ n ∧ i = .int .i64 (j : Int) ∧ OwnB wr base u (xs ++ allB k (ns.take j)) ∧ Grew w v wr u) (fun _ i _ => n - (intOf i).toNat)
  case atStart => exact ⟨0, Nat.zero_le _, rfl, by simpa [allB] using hown, Grew.refl _ _⟩
  case round =>
    obtain ⟨j, hj, rfl, hu, hg⟩ := hrel
    replace hu := hide hu
    replace hg := hide hg
    by_cases hlt : j < n
    · obtain ⟨b, off, rfl, hbl, hcs⟩ := hx.2 (by omega)
      have hjn : j < ns.length := by omega
      have hcell : wr.cell? ⟨b, off + j, none⟩ = some (u64v ns[j]) := by
        have h1 := hcs j (by rw [List.length_map]; exact hjn)
        rw [List.getElem_map] at h1
        rw [← h1]
        exact World.cell?_of_block (hg.out.grown.block b (by omega) (hdis b off rfl))
      have hNj := hN _ (List.getElem_mem hjn)
      have ht := allB_take k ns j hjn
      obtain ⟨N, hNe⟩ : ∃ N, ns[j] = N := ⟨_, rfl⟩
      rw [hNe] at hcell hNj ht
      clear hcs
      replace hNe := hide hNe
      replace ht := hide ht
      unfold u64v at hcell
      go_wp2_with fail
      refine (put_any base _ _ N k _ hu.out (by have := hg.out.grown.size; omega) hNj hk ?_).mono ?_
      · rw [List.length_append, allB_length, List.length_take]
        have : min j ns.length * k ≤ 65536 * 8 := Nat.mul_le_mul (by omega) hk
        omega
      rintro e w' ⟨v', rfl, hown', hg'⟩
      replace hown' := hide hown'
      replace hg' := hide hg'
      go_wp2_with fail
      exact ⟨⟨j + 1, by omega, by go_num, by rw [ht.out, ← List.append_assoc]; exact hown'.out, hg.out.trans hg'.out⟩, by simp [intOf]; omega⟩
    · have hjn : ns.take j = ns := List.take_of_length_le (by omega)
      go_wp2_with fail
      go_ret
      exact ⟨_, rfl, by rw [← hjn]; exact hu.out, hg.out⟩
end Go.Proofs.Ytniieckjooahfaa
