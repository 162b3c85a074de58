/- addr: list: the groups that a text is. Condition: the cell of bytealg.MaxLen, a text of at most 80 bytes. -/
import Derived.Test.YtccmbnaakdffaaaDoorQPfxSorts6
namespace Go.Proofs.YtccmbnaakdffaaaDoor
open Go.RowKit Go.ChangeShapes Go.WideShapes Go.ChangeAt Go.Deep
namespace Addr05
/-- The numbers that parts are. -/
def nums : List (List UInt8) → Option (List Nat)
  | [] => some []
  | x :: r => if (numF 16 65535 x).2 = true then (nums r).map ((numF 16 65535 x).1 :: ·) else none
def listF (s : List UInt8) : Option (List Nat) := if s = [] then some [] else nums (splitL 58 s)
set_option maxRecDepth 20000 in
set_option maxHeartbeats 8000000 in
theorem list_any (s : List UInt8) (hs : s.length ≤ 80) (w : World) (hm : MaxAt w) :
    Calls Tryd.prog 62 #[.string (str s)] w fun e w' => ∃ v, e = .returned (.tuple #[v, .bool (listF s).isSome]) ∧ OwnR 22 u64v w' w.heap.size v ((listF s).getD []) ∧ Below w.heap.size w w' := by
  have hte : (str s).toList.isEmpty = s.isEmpty := by rw [str_toList]
  by_cases h0 : s = []
  · have t0 : (str s).toList.isEmpty = true := by rw [hte, h0]; rfl
    have hL : listF s = some [] := by unfold listF; rw [if_pos h0]
    rw [hL]
    clear hte hL
    replace h0 := hide h0
    go_enter Tryd.func62, Tryd.ntmps62
    go_wp2_with fail
    go_ret2
    exact ⟨_, rfl, OwnR.nil _ _, Below.refl _ _⟩
  have t0 : (str s).toList.isEmpty = false := by rw [hte]; simpa using h0
  have hL : listF s = nums (splitL 58 s) := by unfold listF; rw [if_neg h0]
  rw [hL]
  clear hte hL
  have hsp := split_any 58 s hs w hm
  have hpl := split_part 58 s
  have hll := split_len 58 s
  obtain ⟨ws, hws⟩ : ∃ ws, splitL 58 s = ws := ⟨_, rfl⟩
  rw [hws] at hsp hpl hll ⊢
  obtain ⟨F, hF⟩ : ∃ F, nums ws = F := ⟨_, rfl⟩
  rw [hF]
  replace h0 := hide h0
  replace hsp := hide hsp
  replace hpl := hide hpl
  replace hF := hide hF
  replace hws := hide hws
  replace hm := hide hm
  go_enter Tryd.func62, Tryd.ntmps62
  go_wp2_with fail
  refine hsp.out.mono ?_
  rintro e w2 ⟨A, c, rfl, hx, hc, hb2⟩
  have hz2 := hb2.size
  clear hsp
  replace hx := hide hx
  replace hb2 := hide hb2
  go_wp2_with fail
  go_loopw [4, 14] (fun v kv wr => ∃ (k : Nat) (pre : List Nat), k ≤ ws.length ∧ kv = .int .i64 (k : Int) ∧ pre.length = k ∧ (nums (ws.drop k)).map (pre ++ ·) = F ∧ OwnR 22 u64v wr w2.heap.size v pre ∧ Below w2.heap.size w2 wr) (fun _ kv _ => ws.length - (intOf kv).toNat)
  case atStart => exact ⟨0, [], by omega, rfl, rfl, by rw [← hF.out]; simp, OwnR.nil _ _, Below.refl _ _⟩
  case round =>
    obtain ⟨k, pre, hk, rfl, hpk, hf, hv, hBr⟩ := hrel
    replace hf := hide hf
    replace hv := hide hv
    replace hBr := hide hBr
    by_cases hks : k < ws.length
    · have i1 : (k : Int) < (ws.length : Int) := by omega
      have i2 : (0 : Int) ≤ (k : Int) := by omega
      obtain ⟨b, off, x, rfl, hb, hxk, hcx⟩ := (IsR.on hx.out hBr.out).at hks
      unfold strv at hcx
      have hxl := hpl.out x (List.mem_of_getElem? hxk)
      have hnum := number_any 16 65535 (.inr rfl) (by omega) x (by omega) wr
      have hf1 := hf.out
      rw [drop_cons hxk, nums] at hf1
      obtain ⟨n, hn⟩ : ∃ n, (numF 16 65535 x).1 = n := ⟨_, rfl⟩
      obtain ⟨o, ho⟩ : ∃ o, (numF 16 65535 x).2 = o := ⟨_, rfl⟩
      rw [hn, ho] at hf1 hnum
      have hzr := hBr.out.size
      clear hf
      replace hf1 := hide hf1
      replace hnum := hide hnum
      replace hxk := hide hxk
      replace hn := hide hn
      replace ho := hide ho
      cases o
      · have hF0 : F = none := by
          have hf2 := hf1.out
          rw [if_neg (by simp)] at hf2
          rw [← hf2]; rfl
        subst hF0
        go_wp2_with fail
        refine hnum.out.mono ?_
        rintro e w3 ⟨rfl, rfl⟩
        go_wp2_with fail
        go_ret2
        exact ⟨_, rfl, OwnR.nil _ _, hb2.out.trans (hBr.out.mono hz2)⟩
      · have hf2 := hf1.out
        rw [if_pos rfl, Option.map_map] at hf2
        replace hf2 := hide hf2
        have hpl8 : pre.length ≤ 81 := by omega
        go_wp2_with fail
        refine hnum.out.mono ?_
        rintro e w3 ⟨rfl, rfl⟩
        go_upto_region 10 with fail
        apply wp_region_lit
        iterate 3 (refine wpList_plain rfl fun K hK => ?_; go_simp; refine hK _ _ ?_; clear hK K)
        refine wpl_lit_r Tryd.underlying81 info_u64 rfl (by omega) u64_one rfl (.tmp 25) (.tmp 27) rfl w2.heap.size _ pre [n] 1 1 rfl rfl ?_ rfl ?_ ?_ ?_ ?_
        · rfl
        · exact hv.out
        · omega
        · omega
        intro v' w' hown' hg'
        have hb' : Below w2.heap.size w2 w' := hBr.out.trans (hg'.belowR hv.out (by omega))
        clear hg'
        replace hown' := hide hown'
        replace hb' := hide hb'
        iterate 1 (refine wpList_plain rfl fun K hK => ?_; go_simp; refine hK _ _ ?_; clear hK K)
        refine wpList_nil ?_
        go_simp
        go_wp2_with fail
        refine ⟨⟨k + 1, pre ++ [n], by omega, by first | rfl | go_num, by rw [List.length_append, hpk]; rfl, ?_, hown'.out, hb'.out⟩, by simp only [intOf]; omega⟩
        have h := hf2.out
        rw [← h]
        congr 1
        funext l
        simp
    · have i1 : ((k : Int) < (ws.length : Int)) = False := by rw [eq_iff_iff, iff_false]; omega
      have hdn : ws.drop k = [] := List.drop_of_length_le (by omega)
      have hf1 := hf.out
      rw [hdn, nums] at hf1
      have hF0 : F = some pre := by rw [← hf1]; simp
      subst hF0
      replace hdn := hide hdn
      replace hf1 := hide hf1
      go_wp2_with fail
      go_ret2
      exact ⟨_, rfl, hv.out.weaken hz2, hb2.out.trans (hBr.out.mono hz2)⟩
end Addr05
end Go.Proofs.YtccmbnaakdffaaaDoor
/- addr: plain: what Parse makes of a text is the address whose text it is, or none; what Text makes is parsed again. No condition. -/
namespace Go.Proofs.YtccmbnaakdffaaaDoor
open Go.RowKit Go.ChangeShapes Go.WideShapes Go.ChangeAt Go.Deep
namespace Addr05
theorem index_app (c : UInt8) : ∀ (x r : List UInt8), c ∉ x → Lib.index (x ++ c :: r) [c] = (x.length : Int)
  | [], r, _ => by simp [Lib.index, List.isPrefixOf]
  | a :: x, r, h => by
    rw [List.mem_cons, not_or] at h
    have ih := index_app c x r h.2
    rw [List.cons_append, Lib.index, ih]
    have : ([c] : List UInt8).isPrefixOf (a :: (x ++ c :: r)) = false := by simp [List.isPrefixOf, h.1]
    rw [this]
    have h2 : ((x.length : Int) == -1) = false := by rw [beq_eq_false_iff_ne]; omega
    simp [h2]
theorem index_no (c : UInt8) : ∀ (x : List UInt8), c ∉ x → Lib.index x [c] = -1
  | [], _ => by simp [Lib.index]
  | a :: x, h => by
    rw [List.mem_cons, not_or] at h
    have ih := index_no c x h.2
    rw [Lib.index, ih]
    have : ([c] : List UInt8).isPrefixOf (a :: x) = false := by simp [List.isPrefixOf, h.1]
    rw [this]
    simp
theorem split_app (c : UInt8) (x r : List UInt8) (h : c ∉ x) : splitL c (x ++ c :: r) = x :: splitL c r := by
  have hi : Lib.indexB (str (x ++ c :: r)) (str [c]) = (x.length : Int) := index_app c x r h
  have hx : (str (x ++ c :: r)).extract (x.length + (str [c]).size) (str (x ++ c :: r)).size = str r := by
    apply ByteArray.ext
    apply Array.ext'
    rw [Lib.extract_to_end]
    show (x ++ c :: r).drop (x.length + 1) = r
    simp
  have hy : (str (x ++ c :: r)).extract 0 (x.length + 0) = str x := by
    apply ByteArray.ext
    apply Array.ext'
    simp [str]
  unfold splitL
  rw [Lib.countB_hit _ _ x.length (Nat.le_refl _) hi, hx, Nat.add_comm 1, Lib.splitB_hit _ _ _ _ _ hi, hx, hy]
  rfl
theorem split_no (c : UInt8) (x : List UInt8) (h : c ∉ x) : splitL c x = [x] := by
  have hi : Lib.indexB (str x) (str [c]) = -1 := index_no c x h
  unfold splitL
  rw [Lib.countB_miss _ _ hi]
  rfl
theorem split_tail (c : UInt8) : ∀ (r : List (List UInt8)) (x : List UInt8), c ∉ x → (∀ y ∈ r, c ∉ y) → splitL c (x ++ Lib.joinTail [c] r) = x :: r
  | [], x, h, _ => by simp [Lib.joinTail, split_no c x h]
  | y :: r, x, h, hr => by
    have e : x ++ Lib.joinTail [c] (y :: r) = x ++ c :: (y ++ Lib.joinTail [c] r) := by simp [Lib.joinTail]
    rw [e, split_app c _ _ h, split_tail c r y (hr y List.mem_cons_self) fun z hz => hr z (List.mem_cons_of_mem _ hz)]
theorem split_join (c : UInt8) (xs : List (List UInt8)) (h0 : xs ≠ []) (h : ∀ x ∈ xs, c ∉ x) : splitL c (Lib.join xs [c]) = xs := by
  cases xs with
  | nil => exact absurd rfl h0
  | cons x r => rw [Lib.join_cons, split_tail c r x (h x List.mem_cons_self) fun z hz => h z (List.mem_cons_of_mem _ hz)]
theorem hexV_hexC : ∀ d, d < 16 → hexV (hexC d) = (d : Int) := by decide
theorem hexC_ne : ∀ d, d < 16 → hexC d ≠ 46 ∧ hexC d ≠ 58 ∧ (hexC d = 48 → d = 0) := by decide
theorem digF_mem (b : Nat) (hb : 0 < b) : ∀ k n x, x ∈ digF b k n → ∃ d, d < b ∧ x = hexC d
  | 0, n, x, h => by cases h
  | k + 1, n, x, h => by
    rw [digF] at h
    split at h
    · rename_i hn
      rw [List.mem_singleton] at h
      exact ⟨n, hn, h⟩
    · rcases List.mem_append.1 h with h | h
      · exact digF_mem b hb k _ x h
      · rw [List.mem_singleton] at h
        exact ⟨n % b, Nat.mod_lt _ hb, h⟩
theorem digL_no (b n : Nat) (hb : b = 10 ∨ b = 16) : (46 : UInt8) ∉ digL b n ∧ (58 : UInt8) ∉ digL b n := by
  constructor
  · intro h
    obtain ⟨d, hd, e⟩ := digF_mem b (by omega) _ _ _ h
    exact (hexC_ne d (by omega)).1 e.symm
  · intro h
    obtain ⟨d, hd, e⟩ := digF_mem b (by omega) _ _ _ h
    exact (hexC_ne d (by omega)).2.1 e.symm
theorem digL_ne (b n : Nat) : digL b n ≠ [] := by
  unfold digL
  rw [digF]
  split <;> simp
theorem foldN_cons (b n d : Nat) (r : List UInt8) (hd : d < b) (hb : b ≤ 16) : foldN b n (hexC d :: r) = foldN b (n * b + d) r := by
  rw [foldN, hexV_hexC d (by omega), if_pos ⟨by omega, by omega⟩, Int.toNat_natCast]
theorem numF_of (b most n : Nat) (s : List UInt8) (h1 : s ≠ []) (h2 : s.length ≤ 5) (h3 : s.head? = some 48 → s.length ≤ 1) (h4 : foldN b 0 s = some n) (h5 : n ≤ most) : numF b most s = (n, true) := by
  unfold numF
  rw [if_neg, h4]
  · simp [h5]
  · rintro (h | h | ⟨h, h'⟩)
    · exact h1 h
    · omega
    · have := h3 h; omega
theorem numF_dig10 (n : Nat) (h : n ≤ 255) : numF 10 255 (digL 10 n) = (n, true) := by
  rw [dig10 n h]
  split
  · refine numF_of _ _ _ _ (by simp) (by simp) (by simp) ?_ h
    rw [foldN_cons _ _ _ _ (by omega) (by omega), foldN]; simp
  · split
    · refine numF_of _ _ _ _ (by simp) (by simp) ?_ ?_ h
      · intro h'
        simp only [List.head?_cons, Option.some.injEq] at h'
        have := (hexC_ne (n / 10) (by omega)).2.2 h'
        omega
      · rw [foldN_cons _ _ _ _ (by omega) (by omega), foldN_cons _ _ _ _ (by omega) (by omega), foldN]; congr 1; omega
    · refine numF_of _ _ _ _ (by simp) (by simp) ?_ ?_ h
      · intro h'
        simp only [List.head?_cons, Option.some.injEq] at h'
        have := (hexC_ne (n / 100) (by omega)).2.2 h'
        omega
      · rw [foldN_cons _ _ _ _ (by omega) (by omega), foldN_cons _ _ _ _ (by omega) (by omega), foldN_cons _ _ _ _ (by omega) (by omega), foldN]; congr 1; omega
theorem numF_dig16 (n : Nat) (h : n ≤ 65535) : numF 16 65535 (digL 16 n) = (n, true) := by
  rw [dig16 n h]
  split
  · refine numF_of _ _ _ _ (by simp) (by simp) (by simp) ?_ h
    rw [foldN_cons _ _ _ _ (by omega) (by omega), foldN]; simp
  · split
    · refine numF_of _ _ _ _ (by simp) (by simp) ?_ ?_ h
      · intro h'
        simp only [List.head?_cons, Option.some.injEq] at h'
        have := (hexC_ne (n / 16) (by omega)).2.2 h'
        omega
      · rw [foldN_cons _ _ _ _ (by omega) (by omega), foldN_cons _ _ _ _ (by omega) (by omega), foldN]; congr 1; omega
    · split
      · refine numF_of _ _ _ _ (by simp) (by simp) ?_ ?_ h
        · intro h'
          simp only [List.head?_cons, Option.some.injEq] at h'
          have := (hexC_ne (n / 256) (by omega)).2.2 h'
          omega
        · rw [foldN_cons _ _ _ _ (by omega) (by omega), foldN_cons _ _ _ _ (by omega) (by omega), foldN_cons _ _ _ _ (by omega) (by omega), foldN]; congr 1; omega
      · refine numF_of _ _ _ _ (by simp) (by simp) ?_ ?_ h
        · intro h'
          simp only [List.head?_cons, Option.some.injEq] at h'
          have := (hexC_ne (n / 4096) (by omega)).2.2 h'
          omega
        · rw [foldN_cons _ _ _ _ (by omega) (by omega), foldN_cons _ _ _ _ (by omega) (by omega), foldN_cons _ _ _ _ (by omega) (by omega), foldN_cons _ _ _ _ (by omega) (by omega), foldN]; congr 1; omega
theorem d4_no (lo : Nat) : ∀ k, ∀ x ∈ d4 lo k, (46 : UInt8) ∉ x ∧ (58 : UInt8) ∉ x
  | 0, x, h => by cases h
  | k + 1, x, h => by
    rw [d4] at h
    rcases List.mem_cons.1 h with rfl | h
    · exact digL_no 10 _ (.inl rfl)
    · exact d4_no lo k x h
theorem four_text (lo : Nat) (h : lo < 4294967296) : fourF (text4 lo) = (lo, true) := by
  have hs : splitL 46 (text4 lo) = d4 lo 4 := split_join 46 _ (by simp [d4]) fun x hx => (d4_no lo 4 x hx).1
  have hf : foldW 0 (d4 lo 4) = some lo := by
    simp only [d4, foldW]
    rw [numF_dig10 _ (by omega), numF_dig10 _ (by omega), numF_dig10 _ (by omega), numF_dig10 _ (by omega)]
    simp only [if_true]
    congr 1
    simp only [Nat.mul_zero, Nat.pow_zero, Nat.div_one]
    omega
  unfold fourF
  rw [hs, hf]
  simp [d4]
theorem foldW_lt : ∀ (xs : List (List UInt8)) (n m : Nat), foldW n xs = some m → xs.length ≤ 4 → n < 256 ^ (4 - xs.length) → m < 4294967296
  | [], n, m, h, _, hn => by simp [foldW] at h; subst h; exact hn
  | x :: r, n, m, h, hl, hn => by
    rw [foldW] at h
    split at h
    · rename_i hx
      have hle := numF_le 10 255 x hx
      simp only [List.length_cons] at hl hn
      refine foldW_lt r _ m h (by omega) ?_
      have e : 256 ^ (4 - r.length) = 256 ^ (4 - (r.length + 1)) * 256 := by
        rw [← Nat.pow_succ]; congr 1; omega
      have : n * 256 % 18446744073709551616 ≤ n * 256 := Nat.mod_le _ _
      rw [e]
      omega
    · cases h
theorem four_lt (s : List UInt8) (h : (fourF s).2 = true) : (fourF s).1 < 4294967296 := by
  unfold fourF at h ⊢
  split
  · decide
  · rename_i n hn
    rw [hn] at h
    have h4 : (splitL 46 s).length = 4 := of_decide_eq_true h
    exact foldW_lt _ _ _ hn (by omega) (by rw [h4]; decide)
theorem nums_dig : ∀ ws : List Nat, (∀ n ∈ ws, n < 65536) → nums (d6 ws) = some ws
  | [], _ => rfl
  | n :: r, h => by
    show nums (digL 16 n :: d6 r) = _
    rw [nums, numF_dig16 n (by have := h n List.mem_cons_self; omega), if_pos rfl, nums_dig r fun m hm => h m (List.mem_cons_of_mem _ hm)]
    rfl
theorem join_ne {xs : List (List UInt8)} (c : UInt8) (h0 : xs ≠ []) (h : ∀ x ∈ xs, x ≠ []) : Lib.join xs [c] ≠ [] := by
  cases xs with
  | nil => exact absurd rfl h0
  | cons x r =>
    rw [Lib.join_cons]
    simp [h x List.mem_cons_self]
theorem d6_no (ws : List Nat) : ∀ x ∈ d6 ws, x ≠ [] ∧ (58 : UInt8) ∉ x := by
  intro x hx
  obtain ⟨n, _, rfl⟩ := List.mem_map.1 hx
  exact ⟨digL_ne _ _, (digL_no 16 n (.inr rfl)).2⟩
theorem list_join (ws : List Nat) (h : ∀ n ∈ ws, n < 65536) : listF (Lib.join (d6 ws) [58]) = some ws := by
  unfold listF
  by_cases h0 : ws = []
  · subst h0
    rfl
  · have h1 : d6 ws ≠ [] := by simpa [d6] using h0
    rw [if_neg (join_ne 58 h1 fun x hx => (d6_no ws x hx).1), split_join 58 _ h1 fun x hx => (d6_no ws x hx).2, nums_dig ws h]
def shift (k : Nat) (i : Int) : Int := if i = -1 then -1 else i + k
theorem index_cons (a : UInt8) (y sub : List UInt8) (h : sub.isPrefixOf (a :: y) = false) : Lib.index (a :: y) sub = shift 1 (Lib.index y sub) := by
  rw [Lib.index, h]
  unfold shift
  by_cases hi : Lib.index y sub = -1
  · simp [hi]
  · simp [hi]
theorem shift_shift (j k : Nat) (i : Int) (h : -1 ≤ i) : shift j (shift k i) = shift (k + j) i := by
  unfold shift
  split
  · simp
  · split
    · omega
    · omega
theorem index_skip : ∀ (x y : List UInt8), (58 : UInt8) ∉ x → Lib.index (x ++ y) [58, 58] = shift x.length (Lib.index y [58, 58])
  | [], y, _ => by
    unfold shift
    simp only [List.nil_append, List.length_nil]
    split
    · assumption
    · omega
  | a :: x, y, h => by
    rw [List.mem_cons, not_or] at h
    rw [List.cons_append, index_cons, index_skip x y h.2, shift_shift _ _ _ (Lib.index_ge _ _)]
    · rfl
    · simp [List.isPrefixOf, h.1]
theorem join_head {xs : List (List UInt8)} (c : UInt8) (h0 : xs ≠ []) (h : ∀ x ∈ xs, x ≠ [] ∧ c ∉ x) : ∃ a l, Lib.join xs [c] = a :: l ∧ a ≠ c := by
  cases xs with
  | nil => exact absurd rfl h0
  | cons x r =>
    have hx := h x List.mem_cons_self
    cases x with
    | nil => exact absurd rfl hx.1
    | cons a x =>
      rw [Lib.join_cons]
      exact ⟨a, _, rfl, fun e => hx.2 (e ▸ List.mem_cons_self)⟩
theorem index_join : ∀ (xs : List (List UInt8)) (y : List UInt8), (∀ x ∈ xs, x ≠ [] ∧ (58 : UInt8) ∉ x) → (y = [] ∨ ∃ r, y = 58 :: 58 :: r) → Lib.index (Lib.join xs [58] ++ y) [58, 58] = shift (Lib.join xs [58]).length (Lib.index y [58, 58])
  | [], y, _, _ => by
    rw [Lib.join_nil]
    exact index_skip [] y (by simp)
  | [x], y, h, _ => by
    rw [Lib.join_one]
    exact index_skip x y (h x List.mem_cons_self).2
  | x :: x2 :: r, y, h, hy => by
    have h2 : ∀ z ∈ x2 :: r, z ≠ [] ∧ (58 : UInt8) ∉ z := fun z hz => h z (List.mem_cons_of_mem _ hz)
    have ih := index_join (x2 :: r) y h2 hy
    obtain ⟨a, l, hal, ha⟩ := join_head 58 (by simp) h2
    have e : Lib.join (x :: x2 :: r) [58] = x ++ 58 :: Lib.join (x2 :: r) [58] := by
      rw [Lib.join_cons, Lib.join_cons]
      simp [Lib.joinTail]
    rw [e, List.append_assoc, index_skip x _ (h x List.mem_cons_self).2]
    rw [hal] at ih ⊢
    rw [List.cons_append, index_cons, ih, shift_shift _ _ _ (Lib.index_ge _ _), shift_shift _ _ _ (Lib.index_ge _ _)]
    · congr 1
      simp
      omega
    · simp [List.isPrefixOf, Ne.symm ha]
theorem cut_hit (xs : List (List UInt8)) (r : List UInt8) (h : ∀ x ∈ xs, x ≠ [] ∧ (58 : UInt8) ∉ x) : Lib.cut (Lib.join xs [58] ++ [58, 58] ++ r) [58, 58] = (Lib.join xs [58], r, true) := by
  have hi := index_join xs (58 :: 58 :: r) h (.inr ⟨r, rfl⟩)
  rw [show Lib.index (58 :: 58 :: r) [58, 58] = 0 by simp [Lib.index, List.isPrefixOf]] at hi
  have e : Lib.join xs [58] ++ [58, 58] ++ r = Lib.join xs [58] ++ 58 :: 58 :: r := by simp
  rw [e]
  unfold Lib.cut
  rw [hi, show shift (Lib.join xs [58]).length 0 = ((Lib.join xs [58]).length : Int) by simp [shift], if_pos (by omega)]
  simp
theorem cut_miss (xs : List (List UInt8)) (h : ∀ x ∈ xs, x ≠ [] ∧ (58 : UInt8) ∉ x) : Lib.cut (Lib.join xs [58]) [58, 58] = (Lib.join xs [58], [], false) := by
  have hi := index_join xs [] h (.inl rfl)
  rw [List.append_nil, show Lib.index [] [58, 58] = -1 by simp [Lib.index]] at hi
  unfold Lib.cut
  rw [hi, show shift (Lib.join xs [58]).length (-1) = -1 by simp [shift], if_neg (by omega)]
/-- A number of 16 bits each. -/
def wordN (g : List Nat) : Nat := g.foldl (fun n x => n * 65536 + x) 0
def sixG (a b : List Nat) : List Nat := a ++ List.replicate (8 - (a.length + b.length)) 0 ++ b
def sixF (s : List UInt8) : Option (Nat × Nat) :=
  match listF (Lib.cut s [58, 58]).1, listF (Lib.cut s [58, 58]).2.1 with
  | some a, some b => if 8 < a.length + b.length ∨ ((Lib.cut s [58, 58]).2.2 = false ∧ a.length ≠ 8) then none else some (wordN ((sixG a b).take 4), wordN ((sixG a b).drop 4))
  | _, _ => none
theorem words_hi (hi lo : Nat) (h : hi < 18446744073709551616) : wordN ((wordsL hi lo).take 4) = hi := by
  simp only [wordsL, List.take_succ_cons, List.take_zero, wordN, List.foldl]
  omega
theorem words_lo (hi lo : Nat) (h : lo < 18446744073709551616) : wordN ((wordsL hi lo).drop 4) = lo := by
  simp only [wordsL, List.drop_succ_cons, List.drop_zero, wordN, List.foldl]
  omega
theorem zeroRun_take : ∀ l : List Nat, l = List.replicate (zeroRun l) 0 ++ l.drop (zeroRun l)
  | [] => rfl
  | n :: r => by
    unfold zeroRun
    by_cases h : n = 0
    · rw [if_pos h, List.replicate_succ, List.drop_succ_cons, List.cons_append, ← zeroRun_take r, h]
    · rw [if_neg h]; rfl
theorem six_text (ws : List Nat) (h8 : ws.length = 8) (hw : ∀ n ∈ ws, n < 65536) : sixF (text6 ws) = some (wordN (ws.take 4), wordN (ws.drop 4)) := by
  unfold text6
  rcases gapL_ok ws h8 with h | ⟨a, h, h2, h3⟩
  · rw [h, if_pos (by decide)]
    unfold sixF
    rw [cut_miss _ (d6_no ws)]
    dsimp only
    rw [list_join ws hw, show listF [] = some [] from rfl]
    dsimp only
    rw [if_neg (by simp [h8])]
    have e : sixG ws [] = ws := by unfold sixG; simp [h8]
    rw [e]
  · rw [h]
    dsimp only
    rw [if_neg (by omega), Int.toNat_natCast]
    have e1 : (d6 ws).take a = d6 (ws.take a) := List.map_take.symm
    have e2 : (d6 ws).drop (a + zeroRun (ws.drop a)) = d6 (ws.drop (a + zeroRun (ws.drop a))) := List.map_drop.symm
    rw [e1, e2]
    obtain ⟨z, hz⟩ : ∃ z, zeroRun (ws.drop a) = z := ⟨_, rfl⟩
    have hw2 := zeroRun_take (ws.drop a)
    rw [hz] at h2 h3 hw2 ⊢
    unfold sixF
    rw [cut_hit _ _ (d6_no _)]
    dsimp only
    rw [list_join _ fun n hn => hw n (List.mem_of_mem_take hn), list_join _ fun n hn => hw n (List.mem_of_mem_drop hn)]
    dsimp only
    have l1 : (ws.take a).length = a := by rw [List.length_take]; omega
    have l2 : (ws.drop (a + z)).length = 8 - (a + z) := by rw [List.length_drop, h8]
    rw [if_neg (by simp [l1, l2]; omega)]
    have e : sixG (ws.take a) (ws.drop (a + z)) = ws := by
      unfold sixG
      rw [l1, l2, show 8 - (a + (8 - (a + z))) = z by omega, List.append_assoc, ← List.drop_drop, ← hw2, List.take_append_drop]
    rw [e]
theorem nums_lt : ∀ (xs : List (List UInt8)) (l : List Nat), nums xs = some l → ∀ n ∈ l, n < 65536
  | [], l, h, n, hn => by simp [nums] at h; subst h; cases hn
  | x :: r, l, h, n, hn => by
    rw [nums] at h
    split at h
    · rename_i hx
      obtain ⟨l', hl', rfl⟩ := Option.map_eq_some_iff.1 h
      rcases List.mem_cons.1 hn with rfl | hn
      · have := numF_le 16 65535 x hx; omega
      · exact nums_lt r l' hl' n hn
    · cases h
theorem list_lt (s : List UInt8) (l : List Nat) (h : listF s = some l) : ∀ n ∈ l, n < 65536 := by
  unfold listF at h
  split at h
  · cases h; intro n hn; cases hn
  · exact nums_lt _ _ h
theorem wordN_lt4 (a b c d : Nat) (ha : a < 65536) (hb : b < 65536) (hc : c < 65536) (hd : d < 65536) : wordN [a, b, c, d] < 18446744073709551616 := by
  simp only [wordN, List.foldl]; omega
theorem wordN_lt (g : List Nat) (h4 : g.length = 4) (h : ∀ n ∈ g, n < 65536) : wordN g < 18446744073709551616 := by
  match g, h4 with
  | [a, b, c, d], _ => exact wordN_lt4 a b c d (h a (by simp)) (h b (by simp)) (h c (by simp)) (h d (by simp))
theorem sixG_len (a b : List Nat) (h : a.length + b.length ≤ 8) : (sixG a b).length = 8 := by
  unfold sixG; simp; omega
theorem sixG_lt (a b : List Nat) (ha : ∀ n ∈ a, n < 65536) (hb : ∀ n ∈ b, n < 65536) : ∀ n ∈ sixG a b, n < 65536 := by
  intro n hn
  unfold sixG at hn
  rcases List.mem_append.1 hn with hn | hn
  · rcases List.mem_append.1 hn with hn | hn
    · exact ha n hn
    · have := List.eq_of_mem_replicate hn; omega
  · exact hb n hn
theorem six_lt (s : List UInt8) (p : Nat × Nat) (h : sixF s = some p) : p.1 < 18446744073709551616 ∧ p.2 < 18446744073709551616 := by
  unfold sixF at h
  split at h
  · rename_i a b ha hb
    split at h
    · cases h
    · rename_i hc
      cases h
      have hl := sixG_len a b (by omega)
      have hg := sixG_lt a b (list_lt _ _ ha) (list_lt _ _ hb)
      exact ⟨wordN_lt _ (by rw [List.length_take]; omega) fun n hn => hg n (List.mem_of_mem_take hn), wordN_lt _ (by rw [List.length_drop]; omega) fun n hn => hg n (List.mem_of_mem_drop hn)⟩
  · cases h
structure Adr where
  v6 : Bool
  hi : Nat
  lo : Nat
def rawF (s : List UInt8) : Option Adr :=
  if 0 ≤ Lib.indexByte s 58 then (sixF s).map fun p => ⟨true, p.1, p.2⟩ else if (fourF s).2 = true then some ⟨false, 0, (fourF s).1⟩ else none
def textA (a : Adr) : List UInt8 := textL a.v6 a.hi a.lo
def parseF (s : List UInt8) : Option Adr :=
  if 39 < s.length then none else match rawF s with | none => none | some a => if textA a = s then some a else none
def Adr.right (a : Adr) : Prop := a.v6 = true ∨ (a.hi = 0 ∧ a.lo < 4294967296)
def Adr.ok (a : Adr) : Prop := a.hi < 18446744073709551616 ∧ a.lo < 18446744073709551616
theorem join_len_le (c : UInt8) (M : Nat) : ∀ xs : List (List UInt8), (∀ x ∈ xs, x.length ≤ M) → (Lib.join xs [c]).length ≤ xs.length * (M + 1) - 1
  | [], _ => by simp [Lib.join_nil]
  | [x], h => by rw [Lib.join_one]; have := h x List.mem_cons_self; simp; exact this
  | x :: y :: r, h => by
    have ih := join_len_le c M (y :: r) fun z hz => h z (List.mem_cons_of_mem _ hz)
    have e : Lib.join (x :: y :: r) [c] = x ++ c :: Lib.join (y :: r) [c] := by
      rw [Lib.join_cons, Lib.join_cons]
      simp [Lib.joinTail]
    have hx := h x List.mem_cons_self
    rw [e, List.length_append, List.length_cons]
    have e1 : (x :: y :: r).length * (M + 1) = (y :: r).length * (M + 1) + (M + 1) := by rw [List.length_cons, Nat.succ_mul]
    have e2 : 0 < (y :: r).length * (M + 1) := Nat.mul_pos (by simp) (by omega)
    omega
theorem dig10_len (n : Nat) (h : n ≤ 255) : (digL 10 n).length ≤ 3 := by
  rw [dig10 n h]; (repeat' split) <;> simp
theorem dig16_len (n : Nat) (h : n ≤ 65535) : (digL 16 n).length ≤ 4 := by
  rw [dig16 n h]; (repeat' split) <;> simp
theorem text4_len (lo : Nat) : (text4 lo).length ≤ 15 := by
  have h : ∀ k, ∀ x ∈ d4 lo k, x.length ≤ 3 := by
    intro k
    induction k with
    | zero => intro x hx; cases hx
    | succ k ih =>
      intro x hx
      rw [d4] at hx
      rcases List.mem_cons.1 hx with rfl | hx
      · exact dig10_len _ (by omega)
      · exact ih x hx
  exact join_len_le 46 3 (d4 lo 4) (h 4)
theorem d6_len4 (ws : List Nat) (hw : ∀ n ∈ ws, n < 65536) : ∀ x ∈ d6 ws, x.length ≤ 4 := by
  intro x hx
  obtain ⟨n, hn, rfl⟩ := List.mem_map.1 hx
  exact dig16_len n (by have := hw n hn; omega)
theorem text6_len (ws : List Nat) (h8 : ws.length = 8) (hw : ∀ n ∈ ws, n < 65536) : (text6 ws).length ≤ 39 := by
  unfold text6
  rcases gapL_ok ws h8 with h | ⟨a, h, h2, h3⟩
  · rw [h, if_pos (by decide)]
    have := join_len_le 58 4 (d6 ws) (d6_len4 ws hw)
    rw [show (d6 ws).length = 8 by simp [d6, h8]] at this
    exact this
  · rw [h]
    dsimp only
    rw [if_neg (by omega), Int.toNat_natCast]
    have l := d6_len4 ws hw
    have h1 := join_len_le 58 4 ((d6 ws).take a) fun x hx => l x (List.mem_of_mem_take hx)
    have h2' := join_len_le 58 4 ((d6 ws).drop (a + zeroRun (ws.drop a))) fun x hx => l x (List.mem_of_mem_drop hx)
    rw [show ((d6 ws).take a).length = a by simp [d6, h8]; omega] at h1
    rw [show ((d6 ws).drop (a + zeroRun (ws.drop a))).length = 8 - (a + zeroRun (ws.drop a)) by simp [d6, h8]] at h2'
    simp only [List.length_append, List.length_cons, List.length_nil]
    omega
theorem indexByte_no (c : UInt8) : ∀ l : List UInt8, c ∉ l → Lib.indexByte l c = -1
  | [], _ => rfl
  | a :: l, h => by
    rw [List.mem_cons, not_or] at h
    rw [Lib.indexByte, indexByte_no c l h.2]
    simp [Ne.symm h.1]
theorem indexByte_mem (c : UInt8) (l : List UInt8) (h : c ∈ l) : 0 ≤ Lib.indexByte l c := by
  have hge := Lib.indexByte_ge l c
  rcases Int.lt_or_le (Lib.indexByte l c) 0 with h1 | h1
  · have h2 : Lib.indexByte l c = -1 := by omega
    obtain ⟨k, hk, e⟩ := List.mem_iff_getElem.1 h
    exact absurd (List.getElem?_eq_some_iff.2 ⟨hk, e⟩) (Lib.indexByte_none h2 k)
  · exact h1
theorem join_no (c : UInt8) (s : UInt8) (hs : c ≠ s) : ∀ xs : List (List UInt8), (∀ x ∈ xs, c ∉ x) → c ∉ Lib.join xs [s]
  | [], _ => by simp [Lib.join_nil]
  | [x], h => by rw [Lib.join_one]; exact h x List.mem_cons_self
  | x :: y :: r, h => by
    have e : Lib.join (x :: y :: r) [s] = x ++ s :: Lib.join (y :: r) [s] := by
      rw [Lib.join_cons, Lib.join_cons]
      simp [Lib.joinTail]
    rw [e, List.mem_append, not_or, List.mem_cons, not_or]
    exact ⟨h x List.mem_cons_self, hs, join_no c s hs (y :: r) fun z hz => h z (List.mem_cons_of_mem _ hz)⟩
theorem text6_has (ws : List Nat) (h8 : ws.length = 8) : (58 : UInt8) ∈ text6 ws := by
  unfold text6
  split
  · match ws, h8 with
    | a :: b :: r, _ =>
      show 58 ∈ Lib.join (digL 16 a :: digL 16 b :: d6 r) [58]
      rw [Lib.join_cons]
      simp [Lib.joinTail]
  · simp
theorem raw_text (a : Adr) (hr : a.right) (ho : a.ok) : rawF (textA a) = some a := by
  obtain ⟨v, hi, lo⟩ := a
  obtain ⟨h1, h2⟩ := ho
  dsimp only at h1 h2
  cases v with
  | true =>
    unfold rawF
    show (if 0 ≤ Lib.indexByte (text6 (wordsL hi lo)) 58 then (sixF (text6 (wordsL hi lo))).map _ else _) = _
    rw [if_pos (indexByte_mem _ _ (text6_has _ rfl)), six_text _ rfl (wordsL_lt hi lo), words_hi hi lo h1, words_lo hi lo h2]
    rfl
  | false =>
    have h3 : hi = 0 ∧ lo < 4294967296 := by
      rcases hr with h | h
      · cases h
      · exact h
    obtain ⟨rfl, h3⟩ := h3
    unfold rawF
    show (if 0 ≤ Lib.indexByte (text4 lo) 58 then _ else if (fourF (text4 lo)).2 = true then some (Adr.mk false 0 (fourF (text4 lo)).1) else none) = _
    have hno : Lib.indexByte (text4 lo) 58 = -1 := indexByte_no 58 _ (join_no 58 46 (by decide) _ fun x hx => (d4_no lo 4 x hx).2)
    rw [if_neg (by omega), four_text lo h3, if_pos rfl]
theorem textA_len (a : Adr) : (textA a).length ≤ 39 := by
  unfold textA textL
  split
  · exact text6_len _ rfl (wordsL_lt _ _)
  · exact Nat.le_trans (text4_len _) (by decide)
theorem parse_text (a : Adr) (hr : a.right) (ho : a.ok) : parseF (textA a) = some a := by
  unfold parseF
  rw [if_neg (by have := textA_len a; omega), raw_text a hr ho]
  simp
theorem raw_ok (s : List UInt8) (a : Adr) (h : rawF s = some a) : a.ok ∧ a.right := by
  unfold rawF at h
  split at h
  · obtain ⟨p, hp, rfl⟩ := Option.map_eq_some_iff.1 h
    exact ⟨six_lt s p hp, .inl rfl⟩
  · split at h
    · rename_i hf
      cases h
      have := four_lt s hf
      exact ⟨⟨by dsimp only; omega, by dsimp only; omega⟩, .inr ⟨rfl, this⟩⟩
    · cases h
theorem parse_some (s : List UInt8) (a : Adr) (h : parseF s = some a) : textA a = s ∧ a.ok ∧ a.right := by
  unfold parseF at h
  split at h
  · cases h
  · split at h
    · cases h
    · rename_i b hb
      split at h
      · rename_i ht
        cases h
        exact ⟨ht, raw_ok s _ hb⟩
      · cases h
end Addr05
end Go.Proofs.YtccmbnaakdffaaaDoor
/- pfx: plain: masks and bits of addresses. No condition. -/
namespace Go.Proofs.YtccmbnaakdffaaaDoor
open Go.RowKit Go.ChangeShapes Go.WideShapes Go.ChangeAt Go.Deep
namespace Addr05
/-- A number whose last so many bits are 0. -/
def mkB (x k : Nat) : Nat := x / 2 ^ k * 2 ^ k
theorem mkB_le (x k : Nat) : mkB x k ≤ x := Nat.div_mul_le_self _ _
theorem testBit_mkB (x k j : Nat) : (mkB x k).testBit j = (decide (k ≤ j) && x.testBit j) := by
  unfold mkB
  rw [← Nat.shiftRight_eq_div_pow, ← Nat.shiftLeft_eq, Nat.testBit_shiftLeft, Nat.testBit_shiftRight]
  by_cases h : k ≤ j
  · simp [h]
  · simp [h]
theorem mkB_eq_iff (x k : Nat) : mkB x k = x ↔ ∀ j < k, x.testBit j = false := by
  constructor
  · intro h j hj
    have := testBit_mkB x k j
    rw [h] at this
    simpa [Nat.not_le.2 hj] using this
  · intro h
    apply Nat.eq_of_testBit_eq
    intro j
    rw [testBit_mkB]
    by_cases hk : k ≤ j
    · simp [hk]
    · simp [hk, h j (by omega)]
theorem mkB_eq_mkB_iff (x y k : Nat) : mkB x k = mkB y k ↔ ∀ j, k ≤ j → x.testBit j = y.testBit j := by
  constructor
  · intro h j hj
    have h1 := testBit_mkB x k j
    have h2 := testBit_mkB y k j
    rw [h, h2] at h1
    simpa [hj] using h1.symm
  · intro h
    apply Nat.eq_of_testBit_eq
    intro j
    rw [testBit_mkB, testBit_mkB]
    by_cases hk : k ≤ j
    · simp [hk, h j hk]
    · simp [hk]
theorem mod2_testBit (x j : Nat) : x / 2 ^ j % 2 = (x.testBit j).toNat := by
  rw [Nat.testBit_eq_decide_div_mod_eq]
  have : x / 2 ^ j % 2 < 2 := Nat.mod_lt _ (by omega)
  by_cases h : x / 2 ^ j % 2 = 1
  · simp [h]
  · have : x / 2 ^ j % 2 = 0 := by omega
    simp [this]
/-- How many bits. -/
def Adr.w (a : Adr) : Nat := if a.v6 then 128 else 32
/-- The number that an address's bits are. -/
def Adr.V (a : Adr) : Nat := if a.v6 then a.hi * 18446744073709551616 + a.lo else a.lo
/-- A bit, from the highest on. -/
def Adr.bit (a : Adr) (i : Nat) : Nat := if i < a.w then (if a.v6 then (if i < 64 then a.hi / 2 ^ (63 - i) % 2 else a.lo / 2 ^ (127 - i) % 2) else a.lo / 2 ^ (31 - i) % 2) else 0
theorem Adr.V_lo (a : Adr) (ho : a.ok) (h6 : a.v6 = true) (j : Nat) (hj : j < 64) : a.V.testBit j = a.lo.testBit j := by
  unfold Adr.V
  rw [if_pos h6, show a.hi * 18446744073709551616 = 2 ^ 64 * a.hi by omega, Nat.testBit_two_pow_mul_add _ ho.2, if_pos hj]
theorem Adr.V_hi (a : Adr) (ho : a.ok) (h6 : a.v6 = true) (j : Nat) (hj : 64 ≤ j) : a.V.testBit j = a.hi.testBit (j - 64) := by
  unfold Adr.V
  rw [if_pos h6, show a.hi * 18446744073709551616 = 2 ^ 64 * a.hi by omega, Nat.testBit_two_pow_mul_add _ ho.2, if_neg (by omega)]
theorem Adr.bit_V (a : Adr) (ho : a.ok) (i : Nat) (h : i < a.w) : a.bit i = (a.V.testBit (a.w - 1 - i)).toNat := by
  unfold Adr.bit
  rw [if_pos h]
  by_cases h6 : a.v6 = true
  · have hw : a.w = 128 := by unfold Adr.w; rw [if_pos h6]
    rw [hw] at h ⊢
    rw [if_pos h6]
    split
    · rw [mod2_testBit, a.V_hi ho h6 _ (by omega)]
      congr 2
      omega
    · rw [mod2_testBit, a.V_lo ho h6 _ (by omega)]
  · have hw : a.w = 32 := by unfold Adr.w; rw [if_neg h6]
    rw [hw] at h ⊢
    rw [if_neg h6, mod2_testBit]
    unfold Adr.V
    rw [if_neg h6]
/-- What Mask makes: at so many bits that there can be. -/
def Adr.mask (a : Adr) (b : Nat) : Adr := if a.v6 then ⟨true, mkB a.hi (64 - min b 64), mkB a.lo (64 - (b - 64))⟩ else ⟨false, a.hi, mkB a.lo (32 - b)⟩
theorem Adr.mask_v6 (a : Adr) (b : Nat) : (a.mask b).v6 = a.v6 := by
  unfold Adr.mask
  cases h : a.v6 <;> simp
theorem Adr.mask_w (a : Adr) (b : Nat) : (a.mask b).w = a.w := by unfold Adr.w; rw [Adr.mask_v6]
theorem Adr.mask_ok (a : Adr) (ho : a.ok) (b : Nat) : (a.mask b).ok := by
  unfold Adr.mask
  have h1 := ho.1
  have h2 := ho.2
  split
  · exact ⟨Nat.lt_of_le_of_lt (mkB_le _ _) h1, Nat.lt_of_le_of_lt (mkB_le _ _) h2⟩
  · exact ⟨h1, Nat.lt_of_le_of_lt (mkB_le _ _) h2⟩
theorem Adr.mask_right (a : Adr) (hr : a.right) (b : Nat) : (a.mask b).right := by
  unfold Adr.mask
  rcases hr with h | h
  · rw [if_pos h]; exact .inl rfl
  · split
    · exact .inl rfl
    · exact .inr ⟨h.1, Nat.lt_of_le_of_lt (mkB_le _ _) h.2⟩
theorem Adr.mask_V (a : Adr) (ho : a.ok) (b : Nat) (hb : b ≤ a.w) : (a.mask b).V = mkB a.V (a.w - b) := by
  apply Nat.eq_of_testBit_eq
  intro j
  rw [testBit_mkB]
  have ho' := a.mask_ok ho b
  by_cases h6 : a.v6 = true
  · have hw : a.w = 128 := by unfold Adr.w; rw [if_pos h6]
    rw [hw] at hb ⊢
    have hm6 : (a.mask b).v6 = true := by rw [a.mask_v6, h6]
    by_cases hj : j < 64
    · rw [(a.mask b).V_lo ho' hm6 j hj, a.V_lo ho h6 j hj]
      unfold Adr.mask
      rw [if_pos h6, testBit_mkB]
      congr 1
      by_cases h1 : 128 - b ≤ j
      · simp [h1]; omega
      · simp [h1]; omega
    · rw [(a.mask b).V_hi ho' hm6 j (by omega), a.V_hi ho h6 j (by omega)]
      unfold Adr.mask
      rw [if_pos h6, testBit_mkB]
      congr 1
      by_cases h1 : 128 - b ≤ j
      · simp [h1]; omega
      · simp [h1]; omega
  · have hw : a.w = 32 := by unfold Adr.w; rw [if_neg h6]
    rw [hw] at hb ⊢
    unfold Adr.mask Adr.V
    rw [if_neg h6, if_neg h6]
    exact testBit_mkB _ _ _
theorem Adr.ext_V (a b : Adr) (h6 : a.v6 = b.v6) (hoa : a.ok) (hob : b.ok) (hra : a.right) (hrb : b.right) (h : a.V = b.V) : a = b := by
  obtain ⟨v, hi, lo⟩ := a
  obtain ⟨v', hi', lo'⟩ := b
  dsimp only at h6
  subst h6
  unfold Adr.V at h
  obtain ⟨h1, h2⟩ := hoa
  obtain ⟨h3, h4⟩ := hob
  dsimp only at h h1 h2 h3 h4
  cases v
  · rcases hra with e | e
    · cases e
    · rcases hrb with e' | e'
      · cases e'
      · obtain ⟨rfl, _⟩ := e
        obtain ⟨rfl, _⟩ := e'
        simp at h
        simp [h]
  · simp only [if_true] at h
    have : hi = hi' := by omega
    have : lo = lo' := by omega
    simp [*]
theorem Adr.V_lt (a : Adr) (ho : a.ok) (hr : a.right) : a.V < 2 ^ a.w := by
  have h1 := ho.1
  have h2 := ho.2
  unfold Adr.V Adr.w
  split
  · have : (2 : Nat) ^ 128 = 18446744073709551616 * 18446744073709551616 := by decide
    rw [this]
    have : a.hi * 18446744073709551616 + 18446744073709551616 ≤ 18446744073709551616 * 18446744073709551616 := by omega
    omega
  · rename_i h6
    rcases hr with h | h
    · exact absurd h h6
    · exact h.2
/-- Masked is as it was: there are no bits behind. -/
theorem Adr.mask_eq (a : Adr) (ho : a.ok) (hr : a.right) (b : Nat) (hb : b ≤ a.w) : a.mask b = a ↔ ∀ i, b ≤ i → i < a.w → a.bit i = 0 := by
  have e1 : a.mask b = a ↔ (a.mask b).V = a.V := ⟨fun h => by rw [h], fun h => Adr.ext_V _ _ (a.mask_v6 b) (a.mask_ok ho b) ho (a.mask_right hr b) hr h⟩
  rw [e1, a.mask_V ho b hb, mkB_eq_iff]
  constructor
  · intro h i hi hw
    rw [a.bit_V ho i hw, h _ (by omega)]
    rfl
  · intro h j hj
    have h1 := h (a.w - 1 - j) (by omega) (by omega)
    rw [a.bit_V ho _ (by omega), show a.w - 1 - (a.w - 1 - j) = j by omega] at h1
    cases h2 : a.V.testBit j
    · rfl
    · rw [h2] at h1; cases h1
/-- Masked is a prefix's address: the first bits are alike. -/
theorem Adr.mask_eq2 (a p : Adr) (ho : a.ok) (hr : a.right) (hop : p.ok) (hrp : p.right) (h6 : a.v6 = p.v6) (b : Nat) (hb : b ≤ a.w) (hp : p.mask b = p) : a.mask b = p ↔ ∀ i, i < b → p.bit i = a.bit i := by
  have hw : a.w = p.w := by unfold Adr.w; rw [h6]
  have e1 : a.mask b = p ↔ (a.mask b).V = p.V := ⟨fun h => by rw [h], fun h => Adr.ext_V _ _ ((a.mask_v6 b).trans h6) (a.mask_ok ho b) hop (a.mask_right hr b) hrp h⟩
  have e2 : p.V = mkB p.V (p.w - b) := by
    have := p.mask_V hop b (by omega)
    rw [hp] at this
    exact this
  rw [e1, a.mask_V ho b hb, e2, ← hw, mkB_eq_mkB_iff]
  have hT : ∀ x y : Bool, x.toNat = y.toNat ↔ x = y := by decide
  constructor
  · intro h i hi
    rw [a.bit_V ho i (by omega), p.bit_V hop i (by omega), h _ (by omega), hw]
  · intro h j hj
    by_cases hjw : j < a.w
    · have h1 := h (a.w - 1 - j) (by omega)
      rw [a.bit_V ho _ (by omega), p.bit_V hop _ (by omega), hT, ← hw, show a.w - 1 - (a.w - 1 - j) = j by omega] at h1
      exact h1.symm
    · have hz : ∀ x : Nat, x < 2 ^ a.w → x.testBit j = false := fun x hx => Nat.testBit_lt_two_pow (Nat.lt_of_lt_of_le hx (Nat.pow_le_pow_right (by omega) (by omega)))
      rw [hz _ (a.V_lt ho hr), hz _ (by rw [hw]; exact p.V_lt hop hrp)]
/-- The bits of what Mask makes. -/
theorem Adr.mask_bit (a : Adr) (ho : a.ok) (b : Nat) (hb : b ≤ a.w) (i : Nat) (hi : i < a.w) : (a.mask b).bit i = if i < b then a.bit i else 0 := by
  rw [(a.mask b).bit_V (a.mask_ok ho b) i (by rw [a.mask_w]; exact hi), a.mask_V ho b hb, a.mask_w, testBit_mkB, a.bit_V ho i hi]
  by_cases h : i < b
  · rw [if_pos h]
    have : a.w - b ≤ a.w - 1 - i := by omega
    simp [this]
  · rw [if_neg h]
    have : ¬ a.w - b ≤ a.w - 1 - i := by omega
    simp [this]
end Addr05
end Go.Proofs.YtccmbnaakdffaaaDoor
/- pfx: plain: what Parse makes of a text is the prefix whose text it is, or none; what Text makes is parsed again. No condition. -/
namespace Go.Proofs.YtccmbnaakdffaaaDoor
open Go.RowKit Go.ChangeShapes Go.WideShapes Go.ChangeAt Go.Deep
namespace Addr05
instance (a : Adr) : Decidable a.right := by unfold Adr.right; infer_instance
deriving instance DecidableEq for Adr
/-- May a prefix be? -/
def Adr.rightP (a : Adr) (n : Nat) : Bool := decide (a.right ∧ n ≤ a.w ∧ a.mask n = a)
/-- The number that digits are. -/
def tailF : Nat → List UInt8 → Option Nat
  | n, [] => some n
  | n, c :: r => if 48 ≤ c.toNat ∧ c.toNat ≤ 57 then tailF (10 * n + (c.toNat - 48)) r else none
def pfxF (s : List UInt8) : Option (Adr × Nat) :=
  match parseF (Lib.cut s [47]).1 with
  | none => none
  | some a => if (Lib.cut s [47]).2.2 = false ∨ (Lib.cut s [47]).2.1.length < 1 ∨ 3 < (Lib.cut s [47]).2.1.length then none else match tailF 0 (Lib.cut s [47]).2.1 with
    | none => none
    | some n => if a.rightP n = true ∧ digL 10 n = (Lib.cut s [47]).2.1 then some (a, n) else none
def textP (a : Adr) (n : Nat) : List UInt8 := textA a ++ 47 :: digL 10 n
theorem hexC_dec : ∀ d, d < 10 → 48 ≤ (hexC d).toNat ∧ (hexC d).toNat ≤ 57 ∧ (hexC d).toNat - 48 = d := by decide
theorem tailF_cons (n d : Nat) (r : List UInt8) (hd : d < 10) : tailF n (hexC d :: r) = tailF (10 * n + d) r := by
  obtain ⟨h1, h2, h3⟩ := hexC_dec d hd
  rw [tailF, if_pos ⟨h1, h2⟩, h3]
theorem tail_dig (n : Nat) (h : n ≤ 255) : tailF 0 (digL 10 n) = some n := by
  rw [dig10 n h]
  split
  · rw [tailF_cons _ _ _ (by omega), tailF]; simp
  · split
    · rw [tailF_cons _ _ _ (by omega), tailF_cons _ _ _ (by omega), tailF]; congr 1; omega
    · rw [tailF_cons _ _ _ (by omega), tailF_cons _ _ _ (by omega), tailF_cons _ _ _ (by omega), tailF]; congr 1; omega
theorem hexC_47 : ∀ d, d < 16 → hexC d ≠ 47 := by decide
theorem digL_47 (b n : Nat) (hb : b = 10 ∨ b = 16) : (47 : UInt8) ∉ digL b n := by
  intro h
  obtain ⟨d, hd, e⟩ := digF_mem b (by omega) _ _ _ h
  exact hexC_47 d (by omega) e.symm
theorem textA_47 (a : Adr) : (47 : UInt8) ∉ textA a := by
  unfold textA textL
  split
  · have h6 : ∀ ws : List Nat, ∀ x ∈ d6 ws, (47 : UInt8) ∉ x := by
      intro ws x hx
      obtain ⟨n, _, rfl⟩ := List.mem_map.1 hx
      exact digL_47 16 n (.inr rfl)
    unfold text6
    split
    · exact join_no 47 58 (by decide) _ (h6 _)
    · rw [List.mem_append, not_or, List.mem_append, not_or]
      refine ⟨⟨join_no 47 58 (by decide) _ fun x hx => h6 _ x (List.mem_of_mem_take hx), by decide⟩, join_no 47 58 (by decide) _ fun x hx => h6 _ x (List.mem_of_mem_drop hx)⟩
  · have h4 : ∀ lo k, ∀ x ∈ d4 lo k, (47 : UInt8) ∉ x := by
      intro lo k
      induction k with
      | zero => intro x hx; cases hx
      | succ k ih =>
        intro x hx
        rw [d4] at hx
        rcases List.mem_cons.1 hx with rfl | hx
        · exact digL_47 10 _ (.inl rfl)
        · exact ih x hx
    exact join_no 47 46 (by decide) _ (h4 _ _)
theorem cut1_hit (c : UInt8) (x r : List UInt8) (h : c ∉ x) : Lib.cut (x ++ c :: r) [c] = (x, r, true) := by
  unfold Lib.cut
  rw [index_app c x r h, if_pos (by omega)]
  simp
theorem cut1_miss (c : UInt8) (x : List UInt8) (h : c ∉ x) : Lib.cut x [c] = (x, [], false) := by
  unfold Lib.cut
  rw [index_no c x h, if_neg (by omega)]
theorem cut1_back (c : UInt8) : ∀ s : List UInt8, (Lib.cut s [c]).2.2 = true → s = (Lib.cut s [c]).1 ++ c :: (Lib.cut s [c]).2.1
  | s, h => by
    by_cases hc : c ∈ s
    · obtain ⟨x, r, e, hx⟩ : ∃ x r, s = x ++ c :: r ∧ c ∉ x := by
        clear h
        induction s with
        | nil => cases hc
        | cons a s ih =>
          by_cases ha : a = c
          · exact ⟨[], s, by rw [ha]; rfl, by simp⟩
          · rcases List.mem_cons.1 hc with h | h
            · exact absurd h.symm ha
            · obtain ⟨x, r, e, hx⟩ := ih h
              exact ⟨a :: x, r, by rw [e]; rfl, by rw [List.mem_cons, not_or]; exact ⟨Ne.symm ha, hx⟩⟩
      rw [e, cut1_hit c x r hx]
    · rw [cut1_miss c s hc] at h
      cases h
theorem Adr.w_le (a : Adr) : a.w ≤ 128 := by unfold Adr.w; split <;> omega
theorem rightP_w (a : Adr) (n : Nat) (h : a.rightP n = true) : a.right ∧ n ≤ a.w ∧ a.mask n = a := of_decide_eq_true h
theorem pfx_text (a : Adr) (n : Nat) (ho : a.ok) (h : a.rightP n = true) : pfxF (textP a n) = some (a, n) := by
  obtain ⟨h1, h2, h3⟩ := rightP_w a n h
  have h128 := a.w_le
  unfold pfxF textP
  rw [cut1_hit 47 _ _ (textA_47 a)]
  dsimp only
  rw [parse_text a h1 ho]
  dsimp only
  have hl := dig10_len n (by omega)
  have hn := List.length_pos_iff.2 (digL_ne 10 n)
  rw [if_neg (by rintro (h | h | h)
                 · cases h
                 · omega
                 · omega), tail_dig n (by omega)]
  dsimp only
  rw [if_pos ⟨h, rfl⟩]
theorem pfx_some (s : List UInt8) (a : Adr) (n : Nat) (h : pfxF s = some (a, n)) : a.rightP n = true ∧ textP a n = s ∧ a.ok := by
  unfold pfxF at h
  split at h
  · cases h
  · rename_i b hb
    split at h
    · cases h
    · rename_i hc
      split at h
      · cases h
      · rename_i m hm
        split at h
        · rename_i hr
          cases h
          obtain ⟨h1, h2, h3⟩ := parse_some _ _ hb
          refine ⟨hr.1, ?_, h2⟩
          unfold textP
          rw [h1, hr.2]
          refine (cut1_back 47 s ?_).symm
          cases hcut : (Lib.cut s [47]).2.2
          · exact absurd (.inl hcut) hc
          · rfl
        · cases h
end Addr05
end Go.Proofs.YtccmbnaakdffaaaDoor
/- Sorting, plain: rows as functions of places; the order of keys and of tags; swaps, rotation, insertion, merge. No condition. -/
namespace Go.Proofs.YtccmbnaakdffaaaDoor
namespace Sort06
open Addr05 (Adr)
/-- A prefix, and the place at which it stood at first. -/
structure El where
  p : Adr
  i : Int
  t : Nat
  ok : p.ok
/-- An address as one number. -/
def El.N (x : El) : Nat := (if x.p.v6 then 1 else 0) * 340282366920938463463374607431768211456 + x.p.hi * 18446744073709551616 + x.p.lo
/-- Does one come ahead by its key? -/
def kl (x y : El) : Prop := x.N < y.N ∨ (x.N = y.N ∧ x.i < y.i)
/-- .. by its key, and else by its tag. -/
def R (x y : El) : Prop := x.N < y.N ∨ (x.N = y.N ∧ (x.i < y.i ∨ (x.i = y.i ∧ x.t < y.t)))
theorem R.trans {x y z : El} (h : R x y) (k : R y z) : R x z := by unfold R at *; omega
theorem R.irr (x : El) : ¬ R x x := by unfold R; omega
theorem R.asym {x y : El} (h : R x y) : ¬ R y x := by unfold R at *; omega
theorem R_of_not {x y : El} (h : ¬ kl y x) (ht : x.t < y.t) : R x y := by unfold kl at h; unfold R; omega
theorem R_of_kl {x y : El} (h : kl x y) : R x y := by unfold kl at h; unfold R; omega
theorem R_tot {x y : El} (h : x.t ≠ y.t) : R x y ∨ R y x := by unfold R; omega
/-- Sorted from a place to another one. -/
def Srt (X : Nat → El) (a b : Nat) : Prop := ∀ i j, a ≤ i → i < j → j < b → R (X i) (X j)
/-- What stands ahead of m stood ahead of what stands behind. -/
def Tg (X : Nat → El) (a m b : Nat) : Prop := ∀ i j, a ≤ i → i < m → m ≤ j → j < b → (X i).t < (X j).t
/-- The tags rise. -/
def Up (X : Nat → El) (a b : Nat) : Prop := ∀ i j, a ≤ i → i < j → j < b → (X i).t < (X j).t
def seg (X : Nat → El) (a b : Nat) : List El := (List.range' a (b - a)).map X
theorem seg_cat (X : Nat → El) {a m b : Nat} (h1 : a ≤ m) (h2 : m ≤ b) : seg X a b = seg X a m ++ seg X m b := by
  unfold seg
  rw [← List.map_append]
  congr 1
  have e : m = a + 1 * (m - a) := by omega
  rw [show List.range' m (b - m) = List.range' (a + 1 * (m - a)) (b - m) by rw [← e], List.range'_append, show m - a + (b - m) = b - a by omega]
theorem seg_mem {X : Nat → El} {a b : Nat} {x : El} (h : x ∈ seg X a b) : ∃ k, a ≤ k ∧ k < b ∧ X k = x := by
  unfold seg at h
  obtain ⟨k, hk, rfl⟩ := List.mem_map.1 h
  rw [List.mem_range'_1] at hk
  exact ⟨k, by omega, by omega, rfl⟩
theorem mem_seg {X : Nat → El} {a b k : Nat} (h1 : a ≤ k) (h2 : k < b) : X k ∈ seg X a b := by
  unfold seg
  exact List.mem_map.2 ⟨k, by rw [List.mem_range'_1]; omega, rfl⟩
theorem seg_eq {X Y : Nat → El} {a b a' b' : Nat} (hl : b - a = b' - a') (h : ∀ k, a ≤ k → k < b → Y k = X (a' + (k - a))) : seg Y a b = seg X a' b' := by
  unfold seg
  rw [← hl]
  apply List.ext_getElem
  · simp
  · intro k h1 h2
    simp at h1
    simp only [List.getElem_map, List.getElem_range']
    rw [h _ (by omega) (by omega)]
    congr 1
    omega
/-- The same elements from a place to another one; all else stays. -/
structure PermOn (a b : Nat) (X Y : Nat → El) : Prop where
  perm : (seg Y a b).Perm (seg X a b)
  out : ∀ k, ¬ (a ≤ k ∧ k < b) → Y k = X k
theorem PermOn.refl (a b : Nat) (X : Nat → El) : PermOn a b X X := ⟨List.Perm.refl _, fun _ _ => rfl⟩
theorem PermOn.trans {a b : Nat} {X Y Z : Nat → El} (h : PermOn a b X Y) (k : PermOn a b Y Z) : PermOn a b X Z := ⟨k.perm.trans h.perm, fun j hj => (k.out j hj).trans (h.out j hj)⟩
theorem PermOn.wide {a b a' b' : Nat} {X Y : Nat → El} (h : PermOn a b X Y) (h1 : a' ≤ a) (hab : a ≤ b) (h2 : b ≤ b') : PermOn a' b' X Y := by
  refine ⟨?_, fun k hk => h.out k (by omega)⟩
  rw [seg_cat Y h1 (Nat.le_trans hab h2), seg_cat X h1 (Nat.le_trans hab h2), seg_cat Y hab h2, seg_cat X hab h2]
  have e1 : seg Y a' a = seg X a' a := seg_eq rfl fun k hk1 hk2 => by rw [h.out k (by omega)]; congr 1; omega
  have e2 : seg Y b b' = seg X b b' := seg_eq rfl fun k hk1 hk2 => by rw [h.out k (by omega)]; congr 1; omega
  rw [e1, e2]
  exact List.Perm.append_left _ (List.Perm.append_right _ h.perm)
theorem PermOn.all {a b : Nat} {X Y : Nat → El} (h : PermOn a b X Y) {P : El → Prop} (hP : ∀ k, a ≤ k → k < b → P (X k)) : ∀ k, a ≤ k → k < b → P (Y k) := by
  intro k h1 h2
  obtain ⟨j, hj1, hj2, hj⟩ := seg_mem (h.perm.subset (mem_seg (X := Y) h1 h2))
  rw [← hj]
  exact hP j hj1 hj2
/-- Two places' elements change places. -/
def sw (X : Nat → El) (i j : Nat) : Nat → El := fun k => if k = i then X j else if k = j then X i else X k
theorem sw_perm (X : Nat → El) (i : Nat) : PermOn i (i + 2) X (sw X i (i + 1)) := by
  refine ⟨?_, fun k hk => ?_⟩
  · have e : ∀ Y : Nat → El, seg Y i (i + 2) = [Y i, Y (i + 1)] := fun Y => by
      unfold seg
      rw [show i + 2 - i = 2 by omega]
      rfl
    rw [e, e]
    have e1 : sw X i (i + 1) i = X (i + 1) := by unfold sw; rw [if_pos rfl]
    have e2 : sw X i (i + 1) (i + 1) = X i := by unfold sw; rw [if_neg (by omega), if_pos rfl]
    rw [e1, e2]
    exact List.Perm.swap _ _ _
  · unfold sw
    rw [if_neg (by omega), if_neg (by omega)]
theorem sw_comm (X : Nat → El) (i j : Nat) : sw X i j = sw X j i := by
  funext k
  unfold sw
  by_cases h1 : k = i
  · subst h1
    by_cases h2 : k = j
    · subst h2; rw [if_pos rfl]
    · rw [if_pos rfl, if_neg h2, if_pos rfl]
  · rw [if_neg h1]
    by_cases h2 : k = j
    · rw [if_pos h2, if_pos h2]
    · rw [if_neg h2, if_neg h2, if_neg h1]
/-- Two ranges change places. -/
def swF (X : Nat → El) (a b n : Nat) : Nat → El := fun k => if a ≤ k ∧ k < a + n then X (b + (k - a)) else if b ≤ k ∧ k < b + n then X (a + (k - b)) else X k
theorem swF_zero (X : Nat → El) (a b : Nat) : swF X a b 0 = X := by
  funext k
  unfold swF
  rw [if_neg (by omega), if_neg (by omega)]
theorem swF_succ (X : Nat → El) (a b n : Nat) (h : a + (n + 1) ≤ b) : sw (swF X a b n) (a + n) (b + n) = swF X a b (n + 1) := by
  funext k
  unfold sw swF
  repeat' split
  all_goals first | (exfalso; omega) | (congr 1; omega) | rfl
/-- What stands ahead of m goes behind what stands behind it. -/
def rot (X : Nat → El) (a m b : Nat) : Nat → El := fun k => if a ≤ k ∧ k < a + (b - m) then X (m + (k - a)) else if a + (b - m) ≤ k ∧ k < b then X (k - (b - m)) else X k
theorem rot_big (Y : Nat → El) (m i j : Nat) (h : j < i) (hi : i ≤ m) : rot (swF Y (m - i) m j) (m - i + j) m (m + j) = rot Y (m - i) m (m + j) := by
  funext k
  unfold rot swF
  repeat' split
  all_goals first | (exfalso; omega) | (congr 1; omega) | rfl
theorem rot_small (Y : Nat → El) (m i j : Nat) (h : i < j) (hi : i ≤ m) : rot (swF Y (m - i) (m + j - i) i) (m - i) m (m + j - i) = rot Y (m - i) m (m + j) := by
  funext k
  unfold rot swF
  repeat' split
  all_goals first | (exfalso; omega) | (congr 1; omega) | rfl
theorem rot_same (Y : Nat → El) (m i : Nat) (hi : i ≤ m) : swF Y (m - i) m i = rot Y (m - i) m (m + i) := by
  funext k
  unfold rot swF
  repeat' split
  all_goals first | (exfalso; omega) | (congr 1; omega) | rfl
theorem rot_perm (X : Nat → El) {a m b : Nat} (h1 : a ≤ m) (h2 : m ≤ b) : PermOn a b X (rot X a m b) := by
  refine ⟨?_, fun k hk => ?_⟩
  · have hm : a ≤ a + (b - m) := by omega
    have hb : a + (b - m) ≤ b := by omega
    rw [seg_cat (rot X a m b) hm hb, seg_cat X h1 h2]
    have e1 : seg (rot X a m b) a (a + (b - m)) = seg X m b := seg_eq (by omega) fun k hk1 hk2 => by
      unfold rot
      rw [if_pos ⟨hk1, hk2⟩]
    have e2 : seg (rot X a m b) (a + (b - m)) b = seg X a m := seg_eq (by omega) fun k hk1 hk2 => by
      unfold rot
      rw [if_neg (by omega), if_pos ⟨hk1, hk2⟩]
      congr 1
      omega
    rw [e1, e2]
    exact List.perm_append_comm
  · unfold rot
    rw [if_neg (by omega), if_neg (by omega)]
end Sort06
end Go.Proofs.YtccmbnaakdffaaaDoor
