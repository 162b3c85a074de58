/- slices.Clone at bytes: a row of the call's own with the same bytes. And words on bytes as strings. Conditions: at most 2^40 bytes. -/
import Derived.Test.YtniieckjooahfaaMem
import Derived.WalkSpells
import Derived.Lib.LazyBuf
namespace Go.Proofs.Ytniieckjooahfaa
open Go.RowKit Go.ChangeShapes Go.WideShapes Go.ChangeAt Go.Deep
def str (xs : List UInt8) : ByteArray := ⟨xs.toArray⟩
theorem IsB.str {w : World} {B n : Nat} {A : Option Addr} {xs : List UInt8} (h : IsB w B A n xs) (c : Nat) : (convert 35 9 (.slice A n c)).run Try.prog w = .ok (.string (str xs)) w := by
  rcases A with _ | ad
  · have h0 : n = 0 := by
      rcases Nat.eq_zero_or_pos n with h0 | h0
      · exact h0
      · obtain ⟨_, _, e, _⟩ := h.2 h0
        cases e
    have hx : xs = [] := List.eq_nil_of_length_eq_zero (by rw [h.1, h0])
    subst hx
    exact run_convert_bytes_nil w 35 5 Try.underlying35 Try.underlying5 n c 9 Try.underlying9
  · have hn := h.1
    subst hn
    refine run_convert_bytes_back w 35 9 5 ad c xs Try.underlying35 Try.underlying5 Try.underlying9 fun j hj => ?_
    obtain ⟨b, off, e, _, hc⟩ := h.2 (by omega)
    cases e
    rw [show (Addr.add ⟨b, off, none⟩ j : Addr) = ⟨b, off + j, none⟩ by unfold Addr.add; split <;> simp_all]
    exact hc j hj
theorem str_inj {xs ys : List UInt8} (h : str xs = str ys) : xs = ys := by
  have h1 : (str xs).data.toList = (str ys).data.toList := by rw [h]
  simpa [str] using h1
set_option maxHeartbeats 1000000 in
theorem clone_any (A : Option Addr) (n c : Nat) (xs : List UInt8) (w : World) (hx : IsB w w.heap.size A n xs) (hn : n ≤ 1099511627776) :
    Calls Try.prog 74 #[.slice A n c] w fun e w' => ∃ v, e = .returned v ∧ OwnB w' w.heap.size v xs ∧ Below w.heap.size w w' := by
  have hnil := fun W => Lib.run_eql_slice_nil (P := Try.prog) W 35 5 A n c 0 0 Try.underlying35
  rcases A with _ | ad
  · have h0 : n = 0 := by
      rcases Nat.eq_zero_or_pos n with h0 | h0
      · exact h0
      · obtain ⟨_, _, e, _⟩ := hx.2 h0
        cases e
    obtain rfl : xs = [] := List.eq_nil_of_length_eq_zero (by rw [hx.1, h0])
    subst h0
    simp only [Option.isNone_none] at hnil
    clear hx
    go_enter Try.func74, Try.ntmps74
    go_wp2
    go_ret
    exact ⟨_, rfl, OwnB.nil _ _, Below.refl _ _⟩
  · go_enter Try.func74, Try.ntmps74
    go_wp2_with (at_builtin; refine wpl_src_b rfl (.tmp 5) (.tmp 6) rfl w.heap.size _ [] xs _ _ _ (w.heap.size + 1) rfl rfl ?_ ?_ ?_ ?_ ?_)
    · exact OwnB.empty w w.heap.size (Nat.le_refl _)
    · exact (hx.on ((Below.refl _ _).alloc (Nat.le_refl _) _)).more (by simp)
    · simp
    · simp; omega
    intro v' w' hown hb _ _
    go_wp2
    go_ret
    exact ⟨_, rfl, hown, ((Below.refl _ _).alloc (Nat.le_refl _) _).trans hb⟩
end Go.Proofs.Ytniieckjooahfaa
