/- How the arguments of the statements are opened: bytes, numbers, structs. No condition. -/
import Derived.Test.YtniieckjooahfaaBytes
import Derived.Test.YtniieckjooahfaaProg
namespace Go.Proofs.Ytniieckjooahfaa
open Go.RowKit Go.ChangeShapes Go.WideShapes Go.ChangeAt Go.Deep
theorem own : ownKnob Try.prog.godebug = none := by kernel_rfl
theorem laidOut : laidOutB Try.prog = true := by kernel_rfl
theorem wf_le {k : IntKind} {n : Int} (h : (Lit.int k n).wf = true) : k.min ≤ n ∧ n ≤ k.max := by simpa [Lit.wf] using h
theorem u8_wf {n : Int} (h : (Lit.int .u8 n).wf = true) : 0 ≤ n ∧ n ≤ 255 := by
  have := wf_le h
  simpa [IntKind.min, IntKind.max, IntKind.signed, IntKind.bits] using this
section
variable {H : Type} {enc : TypeId × Value → H} {w : World} {spare : Nat → Bool} {held : Bool}
theorem open_bytes {m : Nat} {v : Value} {y : DataW H × List MemPlace} (h : DataW.trod enc Try.prog w 0 spare held m 35 [v] = some y) :
    ∃ A n c xs, v = .slice A n c ∧ IsB w w.heap.size A n xs ∧ n ≤ c ∧ c ≤ maxLen := by
  rcases open_ints Try.underlying35 Try.underlying5 (by kernel_rfl) h with ⟨hcs, _⟩ | ⟨a, l, c, zs, hcs, _, hl, hm, hz, _, hcell, hwz⟩
  · cases hcs
    exact ⟨none, 0, 0, [], rfl, IsB.nil _ _ _, Nat.le_refl _, by omega⟩
  · cases hcs
    have hlz : l ≤ zs.length := by rw [hz]; split <;> omega
    refine ⟨some a, l, c, (zs.take l).map fun z => UInt8.ofNat z.toNat, rfl, ⟨by rw [List.length_map, List.length_take]; omega, fun hp => ?_⟩, hl, hm⟩
    obtain ⟨b, off, spot⟩ := a
    have h0 := hcell 0 (by omega)
    have hspot : spot = none := by simpa [Addr.add] using World.cell?_spot h0
    subst hspot
    refine ⟨b, off, rfl, by simpa [Addr.add] using World.block_lt_of_cell? w _ h0, fun i hi => ?_⟩
    have hi' : i < l := by rw [List.length_map, List.length_take] at hi; omega
    have h1 := hcell i (by omega)
    rw [show (Addr.add ⟨b, off, none⟩ i : Addr) = ⟨b, off + i, none⟩ by unfold Addr.add; split <;> simp_all] at h1
    have hg : zs.getD i 0 = zs[i]'(by omega) := by simp [List.getD, show i < zs.length by omega]
    rw [h1, hg]
    have hw := u8_wf (hwz _ (List.getElem_mem (by omega : i < zs.length)))
    simp only [List.getElem_map, List.getElem_take, u8v]
    congr 2
    simp only [UInt8.toNat_ofNat']
    omega
theorem open_i64 {m : Nat} {v : Value} {y : DataW H × List MemPlace} (h : DataW.trod enc Try.prog w 0 spare held m 3 [v] = some y) : ∃ n : Int, v = .int .i64 n ∧ (Lit.int .i64 n).wf = true := by
  obtain ⟨n, e, _, hw⟩ := DataW.trod_int Try.underlying3 h
  cases e
  exact ⟨n, rfl, hw⟩
theorem open_bool' {m : Nat} {v : Value} {y : DataW H × List MemPlace} (h : DataW.trod enc Try.prog w 0 spare held m 4 [v] = some y) : ∃ b : Bool, v = .bool b := by
  obtain ⟨n, e, _⟩ := DataW.trod_bool Try.underlying4 h
  cases e
  exact ⟨n, rfl⟩
end
end Go.Proofs.Ytniieckjooahfaa
