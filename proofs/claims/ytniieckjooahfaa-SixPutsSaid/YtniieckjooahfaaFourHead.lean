/- The small functions of layer 8, and what its statements' texts use, by contract. Conditions: slices of bytes that read as lists. -/
import Derived.Test.YtniieckjooahfaaClone
import Derived.Test.YtniieckjooahfaaAt
import Derived.Test.YtniieckjooahfaaSumGo
import Derived.Test.YtniieckjooahfaaPut
namespace Go.Proofs.Ytniieckjooahfaa
open Go.RowKit Go.ChangeShapes Go.WideShapes Go.ChangeAt Go.Deep
/-- An address, as a value. -/
abbrev addrV (v : Bool) (hi lo : Int) : Value := .agg #[.bool v, .int .u64 hi, .int .u64 lo]
namespace Four
/-- A header, as a value. -/
abbrev hdV (tos id : Int) (df mf : Bool) (frag ttl proto : Int) (sv : Bool) (shi slo : Int) (dv : Bool) (dhi dlo : Int) (A : Option Addr) (n c : Nat) : Value :=
  .agg #[.int .i64 tos, .int .i64 id, .bool df, .bool mf, .int .i64 frag, .int .i64 ttl, .int .i64 proto, .bool sv, .int .u64 shi, .int .u64 slo, .bool dv, .int .u64 dhi, .int .u64 dlo, .slice A n c]
/-- A header's cells. -/
abbrev hdC (tos id : Int) (df mf : Bool) (frag ttl proto : Int) (sv : Bool) (shi slo : Int) (dv : Bool) (dhi dlo : Int) (A : Option Addr) (n c : Nat) : Obj :=
  .cells #[.int .i64 tos, .int .i64 id, .bool df, .bool mf, .int .i64 frag, .int .i64 ttl, .int .i64 proto, .bool sv, .int .u64 shi, .int .u64 slo, .bool dv, .int .u64 dhi, .int .u64 dlo, .slice A n c] 86
theorem cut_as (A : Option Addr) (n c n1 : Nat) (w : World) (hn : n ≤ maxLen) (hc : n ≤ c) (h1 : min n 300 = n1) :
    Calls Try.prog 44 #[.slice A n c] w fun e w' => e = .returned (.slice A n1 c) ∧ w = w' := by
  unfold maxLen at hn
  by_cases h : 300 < n
  · obtain rfl : n1 = 300 := by omega
    go_enter Try.func44, Try.ntmps44
    go_wp2
    go_ret
    exact ⟨rfl, rfl⟩
  · obtain rfl : n1 = n := by omega
    go_enter Try.func44, Try.ntmps44
    go_wp2
    go_ret
    exact ⟨rfl, rfl⟩
theorem v4_any (x : Int) (w : World) (hx : 0 ≤ x) (hx2 : x < 4294967296) :
    Calls Try.prog 109 #[.int .u32 x] w fun e w' => e = .returned (.agg #[.bool false, .int .u64 0, .int .u64 x]) ∧ Below w.heap.size w w' := by
  go_enter Try.func109, Try.ntmps109
  go_wp2
  exact bodyPost_ret (v := .agg #[.bool false, .int .u64 0, .int .u64 x]) (by simp [results, Try.results109, go_sem]) rfl ⟨rfl, (Below.refl _ _).alloc (Nat.le_refl _) _⟩
/-- May an address be? -/
def okA (v : Bool) (hi lo : Int) : Bool := v || (decide (hi = 0) && decide (lo < 4294967296))
theorem addr_right (v : Bool) (hi lo : Int) (r : Bool) (w : World) (hr : okA v hi lo = r) :
    Calls Try.prog 93 #[.agg #[.bool v, .int .u64 hi, .int .u64 lo]] w fun e w' => e = .returned (.bool r) ∧ Below w.heap.size w w' := by
  subst hr
  rcases v with _ | _
  · by_cases h1 : hi = 0
    · subst h1
      go_enter Try.func93, Try.ntmps93
      go_wp2
      go_ret
      exact ⟨by simp [okA], (Below.refl _ _).alloc (Nat.le_refl _) _⟩
    · have h2 : (hi == 0) = false := by simp [h1]
      go_enter Try.func93, Try.ntmps93
      go_wp2
      go_ret
      exact ⟨by simp [okA, h1], (Below.refl _ _).alloc (Nat.le_refl _) _⟩
  · go_enter Try.func93, Try.ntmps93
    go_wp2
    go_ret
    exact ⟨by simp [okA], (Below.refl _ _).alloc (Nat.le_refl _) _⟩
theorem len_any (tos id : Int) (df mf : Bool) (frag ttl proto : Int) (sv : Bool) (shi slo : Int) (dv : Bool) (dhi dlo : Int) (A : Option Addr) (n c : Nat) (w : World) (hn : n ≤ 1099511627776) :
    Calls Try.prog 56 #[hdV tos id df mf frag ttl proto sv shi slo dv dhi dlo A n c] w fun e w' => e = .returned (.int .i64 (20 + (n : Int))) ∧ Below w.heap.size w w' := by
  unfold hdV
  go_enter Try.func56, Try.ntmps56
  go_wp2
  go_ret
  exact ⟨rfl, (Below.refl _ _).alloc (Nat.le_refl _) _⟩
set_option maxRecDepth 4000 in
set_option maxHeartbeats 1000000 in
theorem same_eq (tos id : Int) (df mf : Bool) (frag ttl proto : Int) (sv : Bool) (shi slo : Int) (dv : Bool) (dhi dlo : Int) (A1 A2 : Option Addr) (n1 n2 c1 c2 : Nat) (xs : List UInt8) (w : World) (h1 : IsB w w.heap.size A1 n1 xs) (h2 : IsB w w.heap.size A2 n2 xs) :
    Calls Try.prog 47 #[hdV tos id df mf frag ttl proto sv shi slo dv dhi dlo A1 n1 c1, hdV tos id df mf frag ttl proto sv shi slo dv dhi dlo A2 n2 c2] w fun e w' => e = .returned (.bool true) ∧ Below w.heap.size w w' := by
  have s1 := (((h1.alloc (hdC tos id df mf frag ttl proto sv shi slo dv dhi dlo A1 n1 c1)).alloc (hdC tos id df mf frag ttl proto sv shi slo dv dhi dlo A2 n2 c2))).str c1
  have s2 := (((h2.alloc (hdC tos id df mf frag ttl proto sv shi slo dv dhi dlo A1 n1 c1)).alloc (hdC tos id df mf frag ttl proto sv shi slo dv dhi dlo A2 n2 c2))).str c2
  unfold hdC at s1 s2
  unfold hdV
  go_enter Try.func47, Try.ntmps47
  go_wp2
  go_ret
  exact ⟨by simp, ((Below.refl _ _).alloc (Nat.le_refl _) _).alloc (by simp) _⟩
set_option maxRecDepth 4000 in
theorem two_any (base : Nat) (v : Value) (xs : List UInt8) (N : Nat) (Ni : Int) (hNi : Ni = (N : Int)) (w : World) (hown : OwnB w base v xs) (hbase : base ≤ w.heap.size) (hN : N ≤ 9223372036854775807) (hl : xs.length ≤ 549755813888) :
    Calls Try.prog 92 #[v, .int .i64 Ni] w fun e w' => ∃ v', e = .returned v' ∧ OwnB w' base v' (xs ++ beB N 2) ∧ Grew w v w' v' := by
  subst hNi
  go_enter Try.func92, Try.ntmps92
  have hvals : [Value.int .u8 ((N : Int) / 256 % 256), .int .u8 ((N : Int) % 256)] = (beB N 2).map u8v := by
    simp only [beB, List.map_cons, List.map_nil, ← u8v_mod]
    simp
  replace hvals := hide hvals
  go_wp2_with (at_builtin; refine wpl_lit_bv rfl (.tmp 5) (.tmp 12) rfl base _ xs (beB N 2) _ _ rfl rfl ?_ ?_ ?_ ?_ ?_ ?_)
  · exact hvals.out
  · exact beB_length N 2
  · exact hown
  · exact hbase
  · omega
  intro v' w' hown' hg
  go_wp2
  go_ret
  exact ⟨_, rfl, hown', hg⟩
end Four
end Go.Proofs.Ytniieckjooahfaa
