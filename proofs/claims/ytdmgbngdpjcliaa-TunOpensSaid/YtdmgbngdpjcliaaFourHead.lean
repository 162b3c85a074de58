/- The small functions of layer 8, and what its statements' texts use, by contract. Conditions: slices of bytes that read as lists. -/
import Derived.Test.YtdmgbngdpjcliaaClone
import Derived.Test.YtdmgbngdpjcliaaAt
import Derived.Test.YtdmgbngdpjcliaaSumGo
import Derived.Test.YtdmgbngdpjcliaaPut
namespace Go.Proofs.Ytdmgbngdpjcliaa
open Go.RowKit Go.ChangeShapes Go.WideShapes Go.ChangeAt Go.Deep
/-- An address, as a value. -/
abbrev addrV (v : Bool) (hi lo : Int) : Value := .agg #[.bool v, .int .u64 hi, .int .u64 lo]
namespace Four
/-- A header, as a value. -/
abbrev hdV (tos id : Int) (df mf : Bool) (frag ttl proto : Int) (sv : Bool) (shi slo : Int) (dv : Bool) (dhi dlo : Int) (A : Option Addr) (n c : Nat) : Value :=
  .agg #[.int .i64 tos, .int .i64 id, .bool df, .bool mf, .int .i64 frag, .int .i64 ttl, .int .i64 proto, .bool sv, .int .u64 shi, .int .u64 slo, .bool dv, .int .u64 dhi, .int .u64 dlo, .slice A n c]
/-- A header's cells. -/
abbrev hdC (tos id : Int) (df mf : Bool) (frag ttl proto : Int) (sv : Bool) (shi slo : Int) (dv : Bool) (dhi dlo : Int) (A : Option Addr) (n c : Nat) : Obj :=
  .cells #[.int .i64 tos, .int .i64 id, .bool df, .bool mf, .int .i64 frag, .int .i64 ttl, .int .i64 proto, .bool sv, .int .u64 shi, .int .u64 slo, .bool dv, .int .u64 dhi, .int .u64 dlo, .slice A n c] 51
theorem v4_any (x : Int) (w : World) (hx : 0 ≤ x) (hx2 : x < 4294967296) :
    Calls Try.prog 48 #[.int .u32 x] w fun e w' => e = .returned (.agg #[.bool false, .int .u64 0, .int .u64 x]) ∧ Below w.heap.size w w' := by
  go_enter Try.func48, Try.ntmps48
  go_wp2
  exact bodyPost_ret (v := .agg #[.bool false, .int .u64 0, .int .u64 x]) (by simp [results, Try.results48, go_sem]) rfl ⟨rfl, (Below.refl _ _).alloc (Nat.le_refl _) _⟩
/-- May an address be? -/
def okA (v : Bool) (hi lo : Int) : Bool := v || (decide (hi = 0) && decide (lo < 4294967296))
theorem addr_right (v : Bool) (hi lo : Int) (r : Bool) (w : World) (hr : okA v hi lo = r) :
    Calls Try.prog 21 #[.agg #[.bool v, .int .u64 hi, .int .u64 lo]] w fun e w' => e = .returned (.bool r) ∧ Below w.heap.size w w' := by
  subst hr
  rcases v with _ | _
  · by_cases h1 : hi = 0
    · subst h1
      go_enter Try.func21, Try.ntmps21
      go_wp2
      go_ret
      exact ⟨by simp [okA], (Below.refl _ _).alloc (Nat.le_refl _) _⟩
    · have h2 : (hi == 0) = false := by simp [h1]
      go_enter Try.func21, Try.ntmps21
      go_wp2
      go_ret
      exact ⟨by simp [okA, h1], (Below.refl _ _).alloc (Nat.le_refl _) _⟩
  · go_enter Try.func21, Try.ntmps21
    go_wp2
    go_ret
    exact ⟨by simp [okA], (Below.refl _ _).alloc (Nat.le_refl _) _⟩
theorem len_any (tos id : Int) (df mf : Bool) (frag ttl proto : Int) (sv : Bool) (shi slo : Int) (dv : Bool) (dhi dlo : Int) (A : Option Addr) (n c : Nat) (w : World) (hn : n ≤ 1099511627776) :
    Calls Try.prog 50 #[hdV tos id df mf frag ttl proto sv shi slo dv dhi dlo A n c] w fun e w' => e = .returned (.int .i64 (20 + (n : Int))) ∧ Below w.heap.size w w' := by
  unfold hdV
  go_enter Try.func50, Try.ntmps50
  go_wp2
  go_ret
  exact ⟨rfl, (Below.refl _ _).alloc (Nat.le_refl _) _⟩
end Four
end Go.Proofs.Ytdmgbngdpjcliaa
