/- Words for the walk of IcmpQuotes. Conditions: slices of bytes that read as lists. -/
import Derived.Test.YtniieckjooahfaaIcmpQuoted
import Derived.Test.YtniieckjooahfaaIcmpParsesWalk
import Derived.Test.YtniieckjooahfaaSub
namespace Go.Proofs.Ytniieckjooahfaa
open Go.RowKit Go.ChangeShapes Go.WideShapes Go.ChangeAt Go.Deep
namespace Icmp
/-- The test of the law's text. -/
theorem tells_eq (v6 : Bool) (k : Int) : errB v6 k = ((!v6 && (k == 3 || k == 4 || k == 5 || k == 11 || k == 12)) || (v6 && decide (1 ≤ k) && decide (k ≤ 4))) := by
  unfold errB
  rcases v6 with _ | _ <;> simp
  by_cases h3 : k = 3 <;> by_cases h4 : k = 4 <;> by_cases h5 : k = 5 <;> by_cases h11 : k = 11 <;> by_cases h12 : k = 12 <;> simp [h3, h4, h5, h11, h12]
/-- All that icmp.Quoted may say, in letters. -/
theorem quoted_all (v6 : Bool) (ty cd wd : Int) (A : Option Addr) (n c : Nat) (xs : List UInt8) (w : World) (hx : IsB w w.heap.size A n xs) (hnc : n ≤ c) (hcm : c ≤ maxLen) (hnm : n ≤ 1099511627776) (E : Bool) (hE : errB v6 ty = E)
    (K proto shi slo dhi dlo frag : Nat) (rest : List UInt8) (hQ : QIs v6 n xs K proto shi slo dhi dlo frag rest) (hrl : rest.length ≤ maxLen) (G : Nat) (hG : (if E = false then 24 else if K ≠ 0 then K else flowK frag proto rest.length) = G) :
    Calls Try.prog 51 #[.bool v6, .agg #[.int .i64 ty, .int .i64 cd, .int .u32 wd, .slice A n c]] w fun e w' => ∃ (tp : Int) (tv : Bool) (thi tlo : Int) (uv : Bool) (uhi ulo sp dp : Int),
      e = .returned (.tuple #[tuV tp tv thi tlo uv uhi ulo sp dp, .int .i64 (G : Int)]) ∧ (G ≠ 0 → tuV tp tv thi tlo uv uhi ulo sp dp = tu0) ∧ (G = 0 → tuV tp tv thi tlo uv uhi ulo sp dp = tuV proto v6 shi slo v6 dhi dlo (beN rest 0 2 : Nat) (beN rest 2 2 : Nat)) ∧ Below w.heap.size w w' := by
  rcases E with _ | _
  · rw [if_pos rfl] at hG
    subst hG
    refine (quoted_no v6 ty cd wd A n c w hE).mono ?_
    rintro e w' ⟨rfl, hb⟩
    exact ⟨0, false, 0, 0, false, 0, 0, 0, 0, rfl, fun _ => rfl, fun h => (by cases h), hb⟩
  · rw [if_neg (by simp)] at hG
    by_cases hK : K = 0
    · subst hK
      rw [if_neg (by simp)] at hG
      refine (quoted_ok v6 ty cd wd A n c xs w hx hnc hcm hnm hE proto shi slo dhi dlo frag rest hQ hrl G hG).mono ?_
      rintro e w' ⟨h1, h2, hb⟩
      by_cases hG0 : G = 0
      · subst hG0
        exact ⟨_, _, _, _, _, _, _, _, _, h2 rfl, fun h => absurd rfl h, fun _ => rfl, hb⟩
      · exact ⟨_, _, _, _, _, _, _, _, _, h1 hG0, fun _ => rfl, fun h => absurd h hG0, hb⟩
    · rw [if_pos hK] at hG
      subst hG
      refine (quoted_fail v6 ty cd wd A n c xs w hx hnc hcm hnm hE K proto shi slo dhi dlo frag rest hQ hK).mono ?_
      rintro e w' ⟨h, hb⟩
      exact ⟨_, _, _, _, _, _, _, _, _, h, fun _ => rfl, fun h => absurd h hK, hb⟩
/-- What is quoted is no longer than what quotes it. -/
theorem chainF_len : ∀ (f next : Nat) (rs : List UInt8) (acc : List (Int × List UInt8)) (r : List (Int × List UInt8) × Nat × List UInt8), Six.chainF f next rs acc = some r → r.2.2.length ≤ rs.length
  | 0, _, _, _, _, h => by simp [Six.chainF] at h
  | f + 1, next, rs, acc, r, h => by
    unfold Six.chainF at h
    split at h
    · cases h; exact Nat.le_refl _
    · split at h
      · cases h
      · split at h
        · cases h
        · split at h
          · split at h
            · cases h
            · cases h
              simp
          · have := chainF_len f _ _ _ r h
            rw [List.length_drop] at this
            omega
theorem qIs_len {v6 : Bool} {n : Nat} {xs : List UInt8} {proto shi slo dhi dlo frag : Nat} {rest : List UInt8} (hQ : QIs v6 n xs 0 proto shi slo dhi dlo frag rest) (hx : xs.length = n) : rest.length ≤ n := by
  unfold QIs at hQ
  rcases v6 with _ | _
  · rw [if_neg (by simp)] at hQ
    obtain ⟨_, h⟩ := hQ
    obtain ⟨_, _, _, _, _, _, rfl⟩ := h rfl
    rw [List.length_drop]; omega
  · rw [if_pos rfl] at hQ
    obtain ⟨_, h⟩ := hQ
    obtain ⟨acc, hR, _⟩ := h rfl
    have := chainF_len _ _ _ _ _ hR
    rw [List.length_drop] at this
    simp only at this
    omega
/-- What stands behind region number N in one statement. -/
def condAfter (N : Nat) (c : Option Code) : Code := match c.bind (fromRegion N) with
  | some (.seq (.seq _ b) _) => b
  | _ => .skip
/-- What is known behind the two branches. -/
def QRel (w4 : World) (g9 : Nat) (v6 : Bool) (K proto shi slo dhi dlo frag : Nat) (rest : List UInt8) (s10 s11 s12 : Value) (wx : World) : Prop :=
  ∃ (Ar : Option Addr) (cr fr : Nat) (rs : List UInt8) (p : Int) (av : Bool) (a1 a2 : Int) (bv : Bool) (b1 b2 : Int), s10 = .slice Ar rs.length cr ∧ s11 = .int .i64 (fr : Int) ∧ s12 = .int .i64 (K : Int) ∧ OwnB wx w4.heap.size (.slice Ar rs.length cr) rs ∧
    wx.heap[g9]? = some (.cells #[.int .i64 p, .bool av, .int .u64 a1, .int .u64 a2, .bool bv, .int .u64 b1, .int .u64 b2, .int .i64 0, .int .i64 0] 26 (0, 0)) ∧ (K = 0 → fr = frag ∧ rs = rest ∧ tuV p av a1 a2 bv b1 b2 0 0 = tuV proto v6 shi slo v6 dhi dlo 0 0) ∧ (K ≠ 0 → rs = []) ∧ Below g9 w4 wx
end Icmp
end Go.Proofs.Ytniieckjooahfaa
