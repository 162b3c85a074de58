/- Bits of numbers that are not below 0: masks and joins that the kit does not bring. -/
import Derived.Test.YtdneeablghlemaaGreatDoorQSnapNobody1
import Derived.Test.YtdneeablghlemaaGreatDoorProg
import Derived.Laws.BitsLemmas
import Derived.Maps.AppendAt
import Derived.OwnWalk
namespace Go.Proofs.YtdneeablghlemaaGreatDoor
open Go.RowKit Go.ChangeShapes Go.WideShapes Go.ChangeAt Go.Deep
theorem wraps62 (n : Int) (h0 : 0 ≤ n) (h1 : n < 2 ^ 62) : IntKind.i64.wrap n = n := by rw [IntKind.wrap_i64]; omega
theorem wrapsu64 (n : Int) (h0 : 0 ≤ n) (h1 : n < 2 ^ 64) : IntKind.u64.wrap n = n := by
  have h := IntKind.wrap_u64 n
  rw [h]; omega
theorem i64_and1 (x : Int) (h0 : 0 ≤ x) (h1 : x < 4611686018427387904) : bits .and .i64 x 1 = x % 2 := bits_mask .i64 62 (by decide) wraps62 1 (by decide) x h0 h1
theorem i64_and8191 (x : Int) (h0 : 0 ≤ x) (h1 : x < 4611686018427387904) : bits .and .i64 x 8191 = x % 8192 := bits_mask .i64 62 (by decide) wraps62 13 (by decide) x h0 h1
theorem i64_or64 (x : Int) (h0 : 0 ≤ x) (h1 : x < 64) : bits .or .i64 64 x = 64 + x := bits_join .i64 62 (by decide) wraps62 6 64 x (by decide) (by decide) (by decide) h0 h1 (by omega)
theorem u64_or_hi (x : Int) (i : Nat) (hi : i ≤ 63) (h0 : 0 ≤ x) (h1 : x < 2 ^ i) : bits .or .u64 (2 ^ i) x = 2 ^ i + x := by
  have hp : (2 : Int) ^ i < 2 ^ 64 := by
    have h := Nat.pow_lt_pow_right (a := 2) (by omega) (show i < 64 by omega)
    exact_mod_cast h
  have hq : (0 : Int) ≤ 2 ^ i := by exact_mod_cast Nat.zero_le (2 ^ i)
  exact bits_join .u64 64 (by decide) wrapsu64 i (2 ^ i) x hq (by simp) hp h0 h1 (by omega)
theorem or_comm_bits (k : IntKind) (x y : Int) : bits .or k x y = bits .or k y x := by simp only [bits, BitVec.or_comm]
theorem u64_or16384 (x : Int) (h0 : 0 ≤ x) (h1 : x < 16384) : bits .or .u64 x 16384 = x + 16384 := by
  rw [or_comm_bits, show (16384 : Int) = 2 ^ 14 by rfl, u64_or_hi x 14 (by omega) h0 h1]
  omega
theorem u64_or8192 (x : Int) (h0 : 0 ≤ x) (h1 : x < 8192) : bits .or .u64 x 8192 = x + 8192 := by
  rw [or_comm_bits, show (8192 : Int) = 2 ^ 13 by rfl, u64_or_hi x 13 (by omega) h0 h1]
  omega
theorem u64_or8192' (x : Int) (h0 : 0 ≤ x) (h1 : x < 8192) : bits .or .u64 (x + 16384) 8192 = x + 16384 + 8192 := by
  rw [← u64_or16384 x h0 (by omega)]
  have h : bits .or .u64 (bits .or .u64 x 16384) 8192 = bits .or .u64 x 24576 := by
    have e : bits .or .u64 16384 8192 = 24576 := by decide
    obtain ⟨a, rfl⟩ := Int.eq_ofNat_of_zero_le h0
    have ha : a < 18446744073709551616 := by omega
    rw [show (16384 : Int) = ((16384 : Nat) : Int) by rfl, show (8192 : Int) = ((8192 : Nat) : Int) by rfl, show (24576 : Int) = ((24576 : Nat) : Int) by rfl]
    have b1 := (bits_nat .u64 64 (by decide) wrapsu64 a 16384 ha (by omega)).2
    have hlt : a ||| 16384 < 2 ^ 64 := Nat.or_lt_two_pow ha (by omega)
    rw [b1, (bits_nat .u64 64 (by decide) wrapsu64 (a ||| 16384) 8192 hlt (by omega)).2, (bits_nat .u64 64 (by decide) wrapsu64 a 24576 ha (by omega)).2, Nat.or_assoc]
    rfl
  rw [h]
  have j := bits_join .u64 64 (by decide) wrapsu64 13 24576 x (by decide) (by decide) (by decide) h0 (by omega) (by omega)
  rw [or_comm_bits, j, u64_or16384 x h0 (by omega)]
  omega
end Go.Proofs.YtdneeablghlemaaGreatDoor
/- Plain numbers: the sum of bytes two by two with the carries added again, however it is reckoned. No condition. -/
namespace Go.Proofs.YtdneeablghlemaaGreatDoor
namespace Sum
/-- A number with all above 16 bits added again. -/
def ones (n : Nat) : Nat := if n = 0 then 0 else (n - 1) % 65535 + 1
/-- The bytes, two by two, the first one the higher. -/
def tot : Bool → List UInt8 → Nat
  | _, [] => 0
  | o, c :: l => (if o then c.toNat else 256 * c.toNat) + tot (!o) l
def stepS (s : Nat × Bool) (c : UInt8) : Nat × Bool :=
  ((s.1 + (if s.2 then c.toNat else 256 * c.toNat)) % 65536 + (s.1 + (if s.2 then c.toNat else 256 * c.toNat)) / 65536, !s.2)
def runS (s : Nat × Bool) (l : List UInt8) : Nat × Bool := l.foldl stepS s

theorem ones_congr {a b : Nat} (h : a % 65535 = b % 65535) (h0 : a = 0 ↔ b = 0) : ones a = ones b := by unfold ones; split <;> split <;> omega
theorem ones_small {a : Nat} (h : a ≤ 65535) : ones a = a := by unfold ones; split <;> omega
theorem ones_le (a : Nat) : ones a ≤ 65535 := by unfold ones; split <;> omega
theorem ones_fold (a : Nat) : ones (a % 65536 + a / 65536) = ones a := ones_congr (by omega) (by omega)
theorem fold_lt {a : Nat} (h : 65535 < a) : a % 65536 + a / 65536 < a := by omega
theorem stepS_le (s : Nat × Bool) (c : UInt8) (h : s.1 ≤ 65536) : (stepS s c).1 ≤ 65536 := by
  have := c.toNat_lt
  unfold stepS; dsimp only; split <;> omega
theorem runS_le (l : List UInt8) : ∀ s : Nat × Bool, s.1 ≤ 65536 → (runS s l).1 ≤ 65536 := by
  induction l with
  | nil => intro s h; exact h
  | cons c l ih => intro s h; exact ih _ (stepS_le s c h)
theorem runS_tot (l : List UInt8) : ∀ s : Nat × Bool, (runS s l).1 % 65535 = (s.1 + tot s.2 l) % 65535 ∧ ((runS s l).1 = 0 ↔ s.1 + tot s.2 l = 0) := by
  induction l with
  | nil => intro s; simp [runS, tot]
  | cons c l ih =>
    intro s
    have h := ih (stepS s c)
    show ((runS (stepS s c) l).1 % 65535 = _) ∧ ((runS (stepS s c) l).1 = 0 ↔ _)
    obtain ⟨s1, s2⟩ := s
    cases s2 <;> simp only [stepS, tot, Bool.not_false, Bool.not_true, if_true, Bool.false_eq_true, if_false] at h ⊢ <;> omega
theorem ones_run (l : List UInt8) : ones (runS (0, false) l).1 = ones (tot false l) := by
  have h := runS_tot l (0, false)
  simp only [Nat.zero_add] at h
  exact ones_congr h.1 h.2
theorem runS_append (s : Nat × Bool) (a b : List UInt8) : runS s (a ++ b) = runS (runS s a) b := List.foldl_append ..
theorem runS_take (s : Nat × Bool) (l : List UInt8) (j : Nat) (h : j < l.length) : runS s (l.take (j + 1)) = stepS (runS s (l.take j)) l[j] := by
  rw [List.take_succ_eq_append_getElem h, runS_append]; rfl
theorem runS_snd (l : List UInt8) : ∀ s : Nat × Bool, (runS s l).2 = (s.2 ^^ decide (l.length % 2 = 1)) := by
  induction l with
  | nil => intro s; simp [runS]
  | cons c l ih =>
    intro s
    show (runS (stepS s c) l).2 = _
    rw [ih]
    have e : decide ((c :: l).length % 2 = 1) = !decide (l.length % 2 = 1) := by
      simp only [List.length_cons]
      by_cases h : l.length % 2 = 1
      · have : ¬ (l.length + 1) % 2 = 1 := by omega
        simp [h, this]
      · have : (l.length + 1) % 2 = 1 := by omega
        simp [h, this]
    rw [e]
    simp [stepS]
theorem tot_append (a b : List UInt8) : ∀ o : Bool, tot o (a ++ b) = tot o a + tot (o ^^ decide (a.length % 2 = 1)) b := by
  induction a with
  | nil => intro o; simp [tot]
  | cons c a ih =>
    intro o
    simp only [List.cons_append, tot, ih, Nat.add_assoc]
    have e : (!o ^^ decide (a.length % 2 = 1)) = (o ^^ decide ((c :: a).length % 2 = 1)) := by
      simp only [List.length_cons]
      by_cases h : a.length % 2 = 1
      · have : ¬ (a.length + 1) % 2 = 1 := by omega
        simp [h, this]
      · have : (a.length + 1) % 2 = 1 := by omega
        simp [h, this]
    rw [e]
theorem tot_le (l : List UInt8) : ∀ o, tot o l ≤ 65280 * l.length := by
  induction l with
  | nil => intro o; simp [tot]
  | cons c l ih =>
    intro o
    have := ih (!o)
    have hc := c.toNat_lt
    simp only [tot, List.length_cons]
    split <;> omega
/-- The words of bytes. -/
def words : List UInt8 → List Nat
  | [] => []
  | [a] => [256 * a.toNat]
  | a :: b :: l => (256 * a.toNat + b.toNat) :: words l
theorem words_sum : ∀ l : List UInt8, (words l).sum = tot false l
  | [] => rfl
  | [a] => by simp [words, tot]
  | a :: b :: l => by simp [words, tot, words_sum l]; omega
theorem words_length : ∀ l : List UInt8, (words l).length = (l.length + 1) / 2
  | [] => rfl
  | [a] => by simp [words]
  | a :: b :: l => by simp [words, words_length l]; omega
theorem words_le : ∀ (l : List UInt8), ∀ x ∈ words l, x ≤ 65535
  | [] => by simp [words]
  | [a] => by have := a.toNat_lt; simp [words]; omega
  | a :: b :: l => by
    have := a.toNat_lt
    have := b.toNat_lt
    intro x hx
    simp only [words, List.mem_cons] at hx
    rcases hx with rfl | hx
    · omega
    · exact words_le l x hx
theorem words_get : ∀ (l : List UInt8) (j : Nat), 2 * j < l.length → (words l)[j]? = some (256 * (l.getD (2 * j) 0).toNat + (l.getD (2 * j + 1) 0).toNat)
  | [], j, h => by simp at h
  | [a], j, h => by
    obtain rfl : j = 0 := by simp at h; omega
    simp [words]
  | a :: b :: l, 0, _ => by simp [words]
  | a :: b :: l, j + 1, h => by
    have := words_get l j (by simp at h; omega)
    simp only [words, List.getElem?_cons_succ, this]
    simp [show 2 * (j + 1) = 2 * j + 1 + 1 by omega]
end Sum
end Go.Proofs.YtdneeablghlemaaGreatDoor
/- Words on memory that a call makes: slices that read as values, append onto a row of the call's own. Conditions: sizes below 2^40. -/
namespace Go.Proofs.YtdneeablghlemaaGreatDoor
open Go.RowKit Go.ChangeShapes Go.WideShapes Go.ChangeAt Go.Deep

/-- The slice '.slice A n c' reads as the cells vs (size cells an element), below block B. -/
def IsV (w : World) (B size : Nat) (A : Option Addr) (n : Nat) (vs : List Value) : Prop :=
  vs.length = n * size ∧ (0 < n → ∃ b off, A = some ⟨b, off, none⟩ ∧ b < B ∧ ∀ i (h : i < vs.length), w.cell? ⟨b, off + i, none⟩ = some vs[i])
section
variable {w w' : World} {B B' size n : Nat} {A : Option Addr} {vs : List Value}
theorem IsV.nil (w : World) (B size : Nat) (A : Option Addr) : IsV w B size A 0 [] := ⟨by simp, fun h => absurd h (by omega)⟩
theorem IsV.keep (h : IsV w B size A n vs) (hk : ∀ p : Addr, p.block < B → w'.cell? p = w.cell? p) : IsV w' B size A n vs :=
  ⟨h.1, fun hn => by
    obtain ⟨b, off, e, hb, hc⟩ := h.2 hn
    exact ⟨b, off, e, hb, fun i hi => (hk _ hb).trans (hc i hi)⟩⟩
theorem IsV.more (h : IsV w B size A n vs) (hB : B ≤ B') : IsV w B' size A n vs :=
  ⟨h.1, fun hn => by
    obtain ⟨b, off, e, hb, hc⟩ := h.2 hn
    exact ⟨b, off, e, by omega, hc⟩⟩
theorem IsV.below (h : IsV w B size A n vs) (hb : Below B w w') : IsV w' B size A n vs := h.keep fun _ hp => hb.cell hp
theorem IsV.on (h : IsV w w.heap.size size A n vs) (hb : Below w.heap.size w w') : IsV w' w'.heap.size size A n vs := (h.below hb).more hb.size
theorem IsB.vals {xs : List UInt8} (h : IsB w B A n xs) : IsV w B 1 A n (xs.map u8v) :=
  ⟨by simp [h.1], fun hn => by
    obtain ⟨b, off, e, hb, hc⟩ := h.2 hn
    exact ⟨b, off, e, hb, fun i hi => by rw [List.length_map] at hi; rw [hc i hi, List.getElem_map]⟩⟩
/-- A block of the call's own that has just been made, as a source. -/
theorem IsV.lit (w : World) (t : TypeId) (vs : List Value) (_c m : Nat) (hc : vs.length = m * size) : IsV (w.alloc (.cells vs.toArray t)) (w.heap.size + 1) size (some ⟨w.heap.size, 0, none⟩) m vs :=
  ⟨hc, fun _ => ⟨_, 0, rfl, by omega, fun i hi => by
    rw [blk_cell (blk_new w t vs.toArray) (0 + i)]
    simp [hi]⟩⟩
end

section
variable {P : Program} (w : World)
theorem append_nothing (base : Nat) (t ty e : TypeId) (i : TypeInfo) (size : Nat) (ht : P.underlying t = some (.slice e)) (hi : P.info? e = some i)
    (v : Value) (n : Nat) (xs : List Value) (hown : w.ownsRow base e size v n xs) (c : Nat) (_A : Option Addr) : (Builtin.append_ #[t, t] ty #[v, .slice none 0 c]).run P w = .ok v w := by
  rcases hown.2 with ⟨rfl, rfl⟩ | ⟨g, cap, cur, rfl, _, _, hnc, _⟩
  · simp [Builtin.append_, run_underlying ht, sizeOf, typeInfo, hi, Builtin.lenOf, Builtin.firstCells]
  · simp [Builtin.append_, run_underlying ht, sizeOf, typeInfo, hi, Builtin.lenOf, Builtin.firstCells, hnc, storeCells]

theorem run_append_isv (base : Nat) (t ty e : TypeId) (i : TypeInfo) (z : Value) (size bytes : Nat) (ht : P.underlying t = some (.slice e)) (hi : P.info? e = some i) (hz : i.zero = some z)
    (hsize : i.size = size) (hby : i.bytes = bytes) (hzs : z.cells.size = size) (hsz : 0 < size)
    (v : Value) (n : Nat) (xs : List Value) (hown : w.ownsRow base e size v n xs)
    (B : Nat) (A : Option Addr) (m c : Nat) (news : List Value) (hr : IsV w B size A m news) (h1 : ∀ u ∈ news, u.oneCell' = true)
    (h63 : n + m ≤ maxLen) (hbytes : (n + m) * bytes ≤ 140737488355328) (hbase : base ≤ w.heap.size) :
    ∃ v' w', (Builtin.append_ #[t, t] ty #[v, .slice A m c]).run P w = .ok v' w' ∧ w'.ownsRow base e size v' (n + m) (xs ++ news) ∧ w.grownBy w' v.ownBlock ∧
      (v'.ownBlock = v.ownBlock ∨ v'.ownBlock = some w.heap.size) := by
  have hzero : m = 0 → news = [] := fun h0 => List.eq_nil_of_length_eq_zero (by rw [hr.1, h0]; simp)
  rcases A with _ | ad
  · have hm : m = 0 := by
      rcases Nat.eq_zero_or_pos m with h0 | h0
      · exact h0
      · obtain ⟨_, _, h, _⟩ := hr.2 h0
        cases h
    have hn := hzero hm
    subst hm hn
    exact ⟨v, w, append_nothing w base t ty e i size ht hi v n xs hown c none, by simpa using hown, World.grownBy.refl w _, .inl rfl⟩
  · have hcells : ∀ j u, news[j]? = some u → w.cell? (ad.add j) = some u := by
      intro j u hu
      rcases Nat.eq_zero_or_pos m with h0 | h0
      · rw [hzero h0] at hu
        cases hu
      · obtain ⟨b, off, h, _, hc⟩ := hr.2 h0
        cases h
        obtain ⟨hj, rfl⟩ := List.getElem?_eq_some_iff.1 hu
        rw [← hc j hj]
        congr 1
        unfold Addr.add
        split
        · rename_i h0; subst h0; rfl
        · rfl
    obtain ⟨v', w', hrun, h2, h3, _, h5⟩ := run_append_own_at (P := P) w base t ty e i z size bytes ht hi hz hsize hby hzs hsz v n xs hown ad m c news hr.1 hcells h1 h63 hbytes hbase
    exact ⟨v', w', hrun, h2, h3, h5⟩

theorem wp_append_isv {o : Oper} {a : Act} {K : Act → World → Prop} {Q : Exit → Act → World → Prop} (s x : Operand) (t : TypeId)
    (ho : o.op = .call { callee := .builtin .append, args := #[s, x], argTypes := #[t, t] })
    (base : Nat) (e : TypeId) (i : TypeInfo) (z : Value) (size bytes : Nat) (ht : P.underlying t = some (.slice e)) (hi : P.info? e = some i) (hz : i.zero = some z)
    (hsize : i.size = size) (hby : i.bytes = bytes) (hzs : z.cells.size = size) (hsz : 0 < size)
    (v : Value) (n : Nat) (xs : List Value) (hs : a.eval s = v) (hown : w.ownsRow base e size v n xs)
    (B : Nat) (A : Option Addr) (m c : Nat) (news : List Value) (hx : a.eval x = .slice A m c) (hr : IsV w B size A m news) (h1 : ∀ u ∈ news, u.oneCell' = true)
    (h63 : n + m ≤ maxLen) (hbytes : (n + m) * bytes ≤ 140737488355328) (hbase : base ≤ w.heap.size)
    (h : ∀ v' w', w'.ownsRow base e size v' (n + m) (xs ++ news) → w.grownBy w' v.ownBlock → (v'.ownBlock = v.ownBlock ∨ v'.ownBlock = some w.heap.size) → K (a.put o.dst v') w') : o.wp P a w K Q := by
  obtain ⟨v', w', hrun, h2, h3, h4⟩ := run_append_isv (P := P) w base t o.type e i z size bytes ht hi hz hsize hby hzs hsz v n xs hown B A m c news hr h1 h63 hbytes hbase
  unfold Oper.wp execOp
  simp only [ho, resolve, invoke, builtin, Sem.run_bind, Sem.run_pure, Result.andThen_ok, List.map_toArray, List.map_cons, List.map_nil, hs, hx, hrun]
  exact h v' w' h2 h3 h4

theorem wpl_append {ops : Array Oper} {rest : List Oper} {o : Oper} {a : Act} {Q : Exit → Act → World → Prop} (hgd : o.guard = none) (s x : Operand) (t : TypeId)
    (ho : o.op = .call { callee := .builtin .append, args := #[s, x], argTypes := #[t, t] })
    (base : Nat) (e : TypeId) (i : TypeInfo) (z : Value) (size bytes : Nat) (ht : P.underlying t = some (.slice e)) (hi : P.info? e = some i) (hz : i.zero = some z)
    (hsize : i.size = size) (hby : i.bytes = bytes) (hzs : z.cells.size = size) (hsz : 0 < size)
    (v : Value) (n : Nat) (xs : List Value) (hs : a.eval s = v) (hown : w.ownsRow base e size v n xs)
    (B : Nat) (A : Option Addr) (m c : Nat) (news : List Value) (hx : a.eval x = .slice A m c) (hr : IsV w B size A m news) (h1 : ∀ u ∈ news, u.oneCell' = true)
    (h63 : n + m ≤ maxLen) (hbytes : (n + m) * bytes ≤ 140737488355328) (hbase : base ≤ w.heap.size)
    (h : ∀ v' w', w'.ownsRow base e size v' (n + m) (xs ++ news) → w.grownBy w' v.ownBlock → (v'.ownBlock = v.ownBlock ∨ v'.ownBlock = some w.heap.size) → wpList P ops Q rest (a.put o.dst v') w') : wpList P ops Q (o :: rest) a w :=
  wpList_plain hgd fun _ hK => wp_append_isv w s x t ho base e i z size bytes ht hi hz hsize hby hzs hsz v n xs hs hown B A m c news hx hr h1 h63 hbytes hbase fun v' w' h2 h3 h4 => hK _ _ (h v' w' h2 h3 h4)
end

/-! ### Rows of bytes and of ints -/
theorem info_u8 : (Tryz.prog.info? 5).map (fun i => (i.zero, i.size, i.bytes)) = some (some (.int .u8 0), 1, 1) := by kernel_rfl
theorem info_int : (Tryz.prog.info? 3).map (fun i => (i.zero, i.size, i.bytes)) = some (some (.int .i64 0), 1, 8) := by kernel_rfl
def OwnB (w : World) (base : Nat) (v : Value) (xs : List UInt8) : Prop := w.ownsRow base 5 1 v xs.length (xs.map u8v)
def OwnI (w : World) (base : Nat) (v : Value) (xs : List Int) : Prop := w.ownsRow base 3 1 v xs.length (xs.map (Value.int .i64))
theorem u8v_one (xs : List UInt8) : ∀ u ∈ xs.map u8v, u.oneCell' = true := by
  intro u hu
  obtain ⟨_, _, rfl⟩ := List.mem_map.1 hu
  rfl
section
variable {w w' : World} {base : Nat} {v : Value}
theorem OwnB.nil (w : World) (base : Nat) : OwnB w base (.slice none 0 0) [] := World.ownsRow_nil w base _ 1
theorem OwnI.nil (w : World) (base : Nat) : OwnI w base (.slice none 0 0) [] := World.ownsRow_nil w base _ 1
theorem OwnB.lt {xs : List UInt8} (h : OwnB w base v xs) : ∀ k, v.ownBlock = some k → base ≤ k ∧ k < w.heap.size := World.ownsRow.lt h
/-- What an owned row's value is, and that it reads as its cells. -/
theorem own_isv {e : TypeId} {size n : Nat} {xs : List Value} (h : w.ownsRow base e size v n xs) : ∃ A c, v = .slice A n c ∧ n ≤ c ∧ c ≤ maxLen ∧ IsV w w.heap.size size A n xs := by
  rcases h.2 with ⟨rfl, h0⟩ | ⟨g, cap, cur, rfl, hg, hh, hn, hm, hs, ht⟩
  · exact ⟨none, 0, by rw [h0], by omega, by omega, h.1, fun hp => by omega⟩
  · refine ⟨some ⟨g, 0, none⟩, cap, rfl, hn, hm, h.1, fun hp => ⟨g, 0, rfl, ?_, fun i hi => ?_⟩⟩
    · rcases Nat.lt_or_ge g w.heap.size with h' | h'
      · exact h'
      · rw [Array.getElem?_eq_none h'] at hh; cases hh
    · have h1 : xs[i]? = cur[i]? := by
        rw [← ht, List.getElem?_take_of_lt (by rw [← h.1]; exact hi)]
        simp
      rw [blk_cell hh (0 + i), Nat.zero_add, ← h1, List.getElem?_eq_getElem hi]
theorem IsV.bytes {B n : Nat} {A : Option Addr} {xs : List UInt8} (h : IsV w B 1 A n (xs.map u8v)) : IsB w B A n xs :=
  ⟨by simpa using h.1, fun hn => by
    obtain ⟨b, off, e, hb, hc⟩ := h.2 hn
    refine ⟨b, off, e, hb, fun i hi => ?_⟩
    have := hc i (by simpa using hi)
    rw [List.getElem_map] at this
    exact this⟩
/-- What its value is, and that it reads as its bytes. -/
theorem OwnB.form {xs : List UInt8} (h : OwnB w base v xs) : ∃ A c, v = .slice A xs.length c ∧ xs.length ≤ c ∧ c ≤ maxLen ∧ IsB w w.heap.size A xs.length xs := by
  obtain ⟨A, c, e, h1, h2, h3⟩ := own_isv h
  exact ⟨A, c, e, h1, h2, h3.bytes⟩
theorem OwnI.form {xs : List Int} (h : OwnI w base v xs) : ∃ A c, v = .slice A xs.length c ∧ xs.length ≤ c ∧ c ≤ maxLen ∧ IsV w w.heap.size 1 A xs.length (xs.map (Value.int .i64)) := own_isv h
/-- What stands written out ('[]byte{..}') is a row of the call's own. -/
theorem OwnB.lit (w : World) (base : Nat) (ys : List UInt8) (hb : base ≤ w.heap.size) (hl : ys.length ≤ 1099511627776) : OwnB (w.alloc (.cells (ys.map u8v).toArray 5)) base (.slice (some ⟨w.heap.size, 0, none⟩) ys.length ys.length) ys :=
  ⟨by simp, .inr ⟨w.heap.size, ys.length, (ys.map u8v).toArray, rfl, hb, heap_alloc_new w _, Nat.le_refl _, by unfold maxLen; omega, by simp, by simp [List.take_of_length_le]⟩⟩
theorem u8v_nat (t : Nat) (h : t ≤ 255) : u8v (UInt8.ofNat t) = .int .u8 (t : Int) := by
  unfold u8v
  rw [UInt8.toNat_ofNat', Nat.mod_eq_of_lt (by omega)]
theorem OwnB.litv (w : World) (base : Nat) (vals : List Value) (ys : List UInt8) (m : Nat) (hv : vals = ys.map u8v) (hm : ys.length = m) (hb : base ≤ w.heap.size) (hl : m ≤ 1099511627776) : OwnB (w.alloc (.cells vals.toArray 5)) base (.slice (some ⟨w.heap.size, 0, none⟩) m m) ys := by
  subst hv hm
  exact OwnB.lit w base ys hb hl
theorem OwnB.empty (w : World) (base : Nat) (hb : base ≤ w.heap.size) : OwnB (w.alloc (.cells #[] 5)) base (.slice (some ⟨w.heap.size, 0, none⟩) 0 0) [] := OwnB.lit w base [] hb (by simp)
theorem OwnB.emptyAt (w : World) (b : Nat) (hw : w.heap.size = b) (base : Nat) (hb : base ≤ b) : OwnB (w.alloc (.cells #[] 5)) base (.slice (some ⟨b, 0, none⟩) 0 0) [] := by subst hw; exact OwnB.empty w base hb
theorem OwnB.reads {A : Option Addr} {n c : Nat} {xs : List UInt8} (h : OwnB w base (.slice A n c) xs) : xs.length = n ∧ n ≤ c ∧ c ≤ maxLen ∧ IsB w w.heap.size A n xs := by
  obtain ⟨A', c', e, h1, h2, h3⟩ := h.form
  cases e
  exact ⟨rfl, h1, h2, h3⟩
theorem grown_refl (w : World) (row : Option Nat) : w.grownBy w row := ⟨rfl, rfl, rfl, Nat.le_refl _, fun _ _ _ => rfl⟩
theorem grown_set {a : World} {g : Nat} (h : a.grownBy w (some g)) {p : Addr} (hp : p.block = g) (u : Value) : a.grownBy (w.setCell p u) (some g) :=
  ⟨h.os, h.tape, h.output, by simpa [World.setCell] using h.size, fun k hk hne => (Below.heap_setCell w p u k (fun e => hne (by rw [e, hp]))).trans (h.block k hk hne)⟩
theorem OwnB.store {g n c : Nat} {xs : List UInt8} (h : OwnB w base (.slice (some ⟨g, 0, none⟩) n c) xs) (j : Nat) (y : UInt8) : OwnB (w.setCell ⟨g, j, none⟩ (u8v y)) base (.slice (some ⟨g, 0, none⟩) n c) (xs.set j y) := by
  have hl := h.reads.1
  subst hl
  have h1 := (World.ownsRow.stored h j (u8v y)).1
  unfold OwnB
  rw [List.length_set, List.map_set]
  exact h1
theorem OwnB.weaken {base' : Nat} {xs : List UInt8} (h : OwnB w base v xs) (hb : base' ≤ base) : OwnB w base' v xs :=
  ⟨h.1, h.2.imp id fun ⟨g, cap, cur, h1, h2, h3⟩ => ⟨g, cap, cur, h1, Nat.le_trans hb h2, h3⟩⟩
theorem OwnB.kept {xs : List UInt8} {row : Option Nat} (h : OwnB w base v xs) (hg : w.grownBy w' row) (hne : v.ownBlock = none ∨ v.ownBlock ≠ row) : OwnB w' base v xs := World.ownsRow.kept h hg hne
theorem OwnB.alloc {xs : List UInt8} (h : OwnB w base v xs) (o : Obj) : OwnB (w.alloc o) base v xs := World.ownsRow.alloc h o
theorem OwnI.alloc {xs : List Int} (h : OwnI w base v xs) (o : Obj) : OwnI (w.alloc o) base v xs := World.ownsRow.alloc h o
theorem OwnB.below {xs : List UInt8} (h : OwnB w base v xs) (hb : Below w.heap.size w w') : OwnB w' base v xs :=
  h.kept (row := none) ⟨hb.os, hb.tape, hb.output, hb.size, fun k hk _ => hb.block k hk⟩ (by cases v.ownBlock <;> simp)
end

/-- append of bytes onto a row of bytes of the call's own. -/
theorem wpl_append_b (w : World) {ops : Array Oper} {rest : List Oper} {o : Oper} {a : Act} {Q : Exit → Act → World → Prop} (hgd : o.guard = none) (s x : Operand)
    (ho : o.op = .call { callee := .builtin .append, args := #[s, x], argTypes := #[40, 40] })
    (base : Nat) (v : Value) (xs : List UInt8) (hs : a.eval s = v) (hown : OwnB w base v xs) (hbase : base ≤ w.heap.size)
    (B : Nat) (A : Option Addr) (m c : Nat) (ys : List UInt8) (hx : a.eval x = .slice A m c) (hr : IsV w B 1 A m (ys.map u8v)) (hb : xs.length + m ≤ 1099511627776)
    (h : ∀ v' w', OwnB w' base v' (xs ++ ys) → w.grownBy w' v.ownBlock → (v'.ownBlock = v.ownBlock ∨ v'.ownBlock = some w.heap.size) → wpList Tryz.prog ops Q rest (a.put o.dst v') w') : wpList Tryz.prog ops Q (o :: rest) a w := by
  obtain ⟨i, hi, hz, hsz, hby⟩ := info_parts info_u8
  have hm : ys.length = m := by simpa using hr.1
  refine wpl_append w hgd s x 40 ho base 5 i _ 1 1 Tryz.underlying40 hi hz hsz hby rfl (by omega) v xs.length (xs.map u8v) hs hown B A m c (ys.map u8v) hx hr (u8v_one ys) (by unfold maxLen; omega) (by omega) hbase fun v' w' h1 h2 h3 => h v' w' ?_ h2 h3
  unfold OwnB
  rw [List.map_append, List.length_append, hm]
  exact h1
theorem wpl_append_i (w : World) {ops : Array Oper} {rest : List Oper} {o : Oper} {a : Act} {Q : Exit → Act → World → Prop} (hgd : o.guard = none) (s x : Operand)
    (ho : o.op = .call { callee := .builtin .append, args := #[s, x], argTypes := #[55, 55] })
    (base : Nat) (v : Value) (xs : List Int) (hs : a.eval s = v) (hown : OwnI w base v xs) (hbase : base ≤ w.heap.size)
    (B : Nat) (A : Option Addr) (m c : Nat) (ys : List Int) (hx : a.eval x = .slice A m c) (hr : IsV w B 1 A m (ys.map (Value.int .i64))) (hb : xs.length + m ≤ 1099511627776)
    (h : ∀ v' w', OwnI w' base v' (xs ++ ys) → w.grownBy w' v.ownBlock → (v'.ownBlock = v.ownBlock ∨ v'.ownBlock = some w.heap.size) → wpList Tryz.prog ops Q rest (a.put o.dst v') w') : wpList Tryz.prog ops Q (o :: rest) a w := by
  obtain ⟨i, hi, hz, hsz, hby⟩ := info_parts info_int
  have hm : ys.length = m := by simpa using hr.1
  refine wpl_append w hgd s x 55 ho base 3 i _ 1 8 Tryz.underlying55 hi hz hsz hby rfl (by omega) v xs.length (xs.map (Value.int .i64)) hs hown B A m c (ys.map (Value.int .i64)) hx hr (ints_oneCell .i64 ys) (by unfold maxLen; omega) (by omega) hbase fun v' w' h1 h2 h3 => h v' w' ?_ h2 h3
  unfold OwnI
  rw [List.map_append, List.length_append, hm]
  exact h1
/-! ### append of what stands written out (its block has just been made), and of a slice that reads; in the words of a walk -/
/-- Where the row lies now: where it lay, or in a block that is new since w. -/
def Moved (w : World) (v v' : Value) : Prop := v'.ownBlock = v.ownBlock ∨ ∃ k, v'.ownBlock = some k ∧ w.heap.size ≤ k
theorem below_of_grown {w w' : World} {base : Nat} {row : Option Nat} (hg : w.grownBy w' row) (hb : base ≤ w.heap.size) (hr : ∀ k, row = some k → base ≤ k) : Below base w w' := (Below.refl base w).grown hg hb hr
theorem grown_alloc_left {w w' : World} {o : Obj} {row : Option Nat} (hg : (w.alloc o).grownBy w' row) : w.grownBy w' row :=
  ⟨hg.os, hg.tape, hg.output, by have := hg.size; simp at this; omega, fun k hk hne => (hg.block k (by simp; omega) hne).trans (Below.heap_alloc w o k hk)⟩
theorem moved_mk {w : World} {o : Obj} {v v' : Value} (h : v'.ownBlock = v.ownBlock ∨ v'.ownBlock = some (w.alloc o).heap.size) : Moved w v v' := h.imp id fun e => ⟨_, e, by simp⟩
theorem moved_mk' {w : World} {v v' : Value} (h : v'.ownBlock = v.ownBlock ∨ v'.ownBlock = some w.heap.size) : Moved w v v' := h.imp id fun e => ⟨_, e, Nat.le_refl _⟩

/-- From (w, v) to (w', v'): a row of the call's own was appended to; only its block has turned, or it has moved to a new one. -/
structure Grew (w : World) (v : Value) (w' : World) (v' : Value) : Prop where
  grown : w.grownBy w' v.ownBlock
  moved : Moved w v v'
theorem Grew.refl (w : World) (v : Value) : Grew w v w v := ⟨grown_refl _ _, .inl rfl⟩
theorem Grew.trans {w w1 w2 : World} {v v1 v2 : Value} (h : Grew w v w1 v1) (k : Grew w1 v1 w2 v2) : Grew w v w2 v2 := by
  have hz := h.grown.size
  refine ⟨⟨k.grown.os.trans h.grown.os, k.grown.tape.trans h.grown.tape, k.grown.output.trans h.grown.output, Nat.le_trans hz k.grown.size, fun i hi hne => ?_⟩, ?_⟩
  · refine (k.grown.block i (by omega) ?_).trans (h.grown.block i hi hne)
    rcases h.moved with e | ⟨j, e, hj⟩
    · rw [e]; exact hne
    · rw [e]; intro e'; cases e'; omega
  · rcases k.moved with e | ⟨j, e, hj⟩
    · rcases h.moved with e' | ⟨j, e', hj⟩
      · exact .inl (e.trans e')
      · exact .inr ⟨j, e.trans e', hj⟩
    · exact .inr ⟨j, e, by omega⟩
theorem Grew.below {w w' : World} {v v' : Value} {base : Nat} {xs : List UInt8} (h : Grew w v w' v') (hown : OwnB w base v xs) (hb : base ≤ w.heap.size) : Below base w w' := below_of_grown h.grown hb fun k hk => (hown.lt k hk).1
theorem Grew.belowNil {w w' : World} {v' : Value} {n c : Nat} (h : Grew w (.slice none n c) w' v') : Below w.heap.size w w' := below_of_grown h.grown (Nat.le_refl _) fun k hk => by cases hk
/-- What lies elsewhere reads on as it did. -/
theorem Grew.keeps {w w' : World} {v v' u : Value} {base : Nat} {ys : List UInt8} (h : Grew w v w' v') (hu : OwnB w base u ys) (hne : u.ownBlock = none ∨ u.ownBlock ≠ v.ownBlock) : OwnB w' base u ys := hu.kept h.grown hne
theorem Grew.isB {w w' : World} {v v' : Value} {base B n : Nat} {A : Option Addr} {xs ys : List UInt8} (h : Grew w v w' v') (hown : OwnB w base v xs) (hb : base ≤ w.heap.size) (hi : IsB w B A n ys) (hB : B ≤ base) : IsB w' B A n ys := hi.below ((h.below hown hb).mono hB)

theorem wpl_lit_b {w : World} {t : TypeId} {ops : Array Oper} {rest : List Oper} {o : Oper} {a : Act} {Q : Exit → Act → World → Prop} (hgd : o.guard = none) (s x : Operand)
    (ho : o.op = .call { callee := .builtin .append, args := #[s, x], argTypes := #[40, 40] })
    (base : Nat) (v : Value) (xs ys : List UInt8) (c : Nat) (hs : a.eval s = v) (hx : a.eval x = .slice (some ⟨w.heap.size, 0, none⟩) ys.length c) (hown : OwnB w base v xs) (hbase : base ≤ w.heap.size) (hb : xs.length + ys.length ≤ 1099511627776)
    (h : ∀ v' w', OwnB w' base v' (xs ++ ys) → Below base w w' → w.grownBy w' v.ownBlock → Moved w v v' → wpList Tryz.prog ops Q rest (a.put o.dst v') w') : wpList Tryz.prog ops Q (o :: rest) a (w.alloc (.cells (ys.map u8v).toArray t)) :=
  wpl_append_b _ hgd s x ho base v xs hs (hown.alloc _) (by simp; omega) (w.heap.size + 1) _ ys.length c ys hx (IsV.lit w t _ c _ (by simp)) hb fun v' w' h1 h2 h3 =>
    h v' w' h1 (below_of_grown (grown_alloc_left h2) hbase fun k hk => (hown.lt k hk).1) (grown_alloc_left h2) (moved_mk h3)
/-- The same, the cells as the walk spells them. -/
theorem wpl_lit_bv {w : World} {t : TypeId} {vals : List Value} {ops : Array Oper} {rest : List Oper} {o : Oper} {a : Act} {Q : Exit → Act → World → Prop} (hgd : o.guard = none) (s x : Operand)
    (ho : o.op = .call { callee := .builtin .append, args := #[s, x], argTypes := #[40, 40] })
    (base : Nat) (v : Value) (xs ys : List UInt8) (m c : Nat) (hs : a.eval s = v) (hx : a.eval x = .slice (some ⟨w.heap.size, 0, none⟩) m c) (hv : vals = ys.map u8v) (hm : ys.length = m) (hown : OwnB w base v xs) (hbase : base ≤ w.heap.size) (hb : xs.length + m ≤ 1099511627776)
    (h : ∀ v' w', OwnB w' base v' (xs ++ ys) → Grew w v w' v' → wpList Tryz.prog ops Q rest (a.put o.dst v') w') : wpList Tryz.prog ops Q (o :: rest) a (w.alloc (.cells vals.toArray t)) := by
  subst hv hm
  exact wpl_lit_b hgd s x ho base v xs ys c hs hx hown hbase hb fun v' w' h1 _ h3 h4 => h v' w' h1 ⟨h3, h4⟩
theorem wpl_src_bv {w : World} {ops : Array Oper} {rest : List Oper} {o : Oper} {a : Act} {Q : Exit → Act → World → Prop} (hgd : o.guard = none) (s x : Operand)
    (ho : o.op = .call { callee := .builtin .append, args := #[s, x], argTypes := #[40, 40] })
    (base : Nat) (v : Value) (xs ys : List UInt8) (A : Option Addr) (m c B : Nat) (hs : a.eval s = v) (hx : a.eval x = .slice A m c) (hown : OwnB w base v xs) (hr : IsB w B A m ys) (hbase : base ≤ w.heap.size) (hb : xs.length + m ≤ 1099511627776)
    (h : ∀ v' w', OwnB w' base v' (xs ++ ys) → Grew w v w' v' → wpList Tryz.prog ops Q rest (a.put o.dst v') w') : wpList Tryz.prog ops Q (o :: rest) a w :=
  wpl_append_b _ hgd s x ho base v xs hs hown hbase B A m c ys hx hr.vals hb fun v' w' h1 h2 h3 => h v' w' h1 ⟨h2, moved_mk' h3⟩
theorem wpl_lit_i {w : World} {t : TypeId} {ops : Array Oper} {rest : List Oper} {o : Oper} {a : Act} {Q : Exit → Act → World → Prop} (hgd : o.guard = none) (s x : Operand)
    (ho : o.op = .call { callee := .builtin .append, args := #[s, x], argTypes := #[55, 55] })
    (base : Nat) (v : Value) (xs ys : List Int) (c : Nat) (hs : a.eval s = v) (hx : a.eval x = .slice (some ⟨w.heap.size, 0, none⟩) ys.length c) (hown : OwnI w base v xs) (hbase : base ≤ w.heap.size) (hb : xs.length + ys.length ≤ 1099511627776)
    (h : ∀ v' w', OwnI w' base v' (xs ++ ys) → Below base w w' → w.grownBy w' v.ownBlock → Moved w v v' → wpList Tryz.prog ops Q rest (a.put o.dst v') w') : wpList Tryz.prog ops Q (o :: rest) a (w.alloc (.cells (ys.map (Value.int .i64)).toArray t)) :=
  wpl_append_i _ hgd s x ho base v xs hs (hown.alloc _) (by simp; omega) (w.heap.size + 1) _ ys.length c ys hx (IsV.lit w t _ c _ (by simp)) hb fun v' w' h1 h2 h3 =>
    h v' w' h1 (below_of_grown (grown_alloc_left h2) hbase fun k hk => (World.ownsRow.lt hown k hk).1) (grown_alloc_left h2) (moved_mk h3)
theorem wpl_src_b {w : World} {ops : Array Oper} {rest : List Oper} {o : Oper} {a : Act} {Q : Exit → Act → World → Prop} (hgd : o.guard = none) (s x : Operand)
    (ho : o.op = .call { callee := .builtin .append, args := #[s, x], argTypes := #[40, 40] })
    (base : Nat) (v : Value) (xs ys : List UInt8) (A : Option Addr) (m c B : Nat) (hs : a.eval s = v) (hx : a.eval x = .slice A m c) (hown : OwnB w base v xs) (hr : IsB w B A m ys) (hbase : base ≤ w.heap.size) (hb : xs.length + m ≤ 1099511627776)
    (h : ∀ v' w', OwnB w' base v' (xs ++ ys) → Below base w w' → w.grownBy w' v.ownBlock → Moved w v v' → wpList Tryz.prog ops Q rest (a.put o.dst v') w') : wpList Tryz.prog ops Q (o :: rest) a w :=
  wpl_append_b _ hgd s x ho base v xs hs hown hbase B A m c ys hx hr.vals hb fun v' w' h1 h2 h3 =>
    h v' w' h1 (below_of_grown h2 hbase fun k hk => (hown.lt k hk).1) h2 (moved_mk' h3)
end Go.Proofs.YtdneeablghlemaaGreatDoor
/- How the arguments of the statements are opened: bytes, numbers, structs. No condition. -/
namespace Go.Proofs.YtdneeablghlemaaGreatDoor
open Go.RowKit Go.ChangeShapes Go.WideShapes Go.ChangeAt Go.Deep
theorem own : ownKnob Tryz.prog.godebug = none := by kernel_rfl
theorem laidOut : laidOutB Tryz.prog = true := by kernel_rfl
section
variable {H : Type} {enc : TypeId × Value → H} {w : World} {spare : Nat → Bool} {held : Bool}
theorem open_bytes {m : Nat} {v : Value} {y : DataW H × List MemPlace} (h : DataW.trod enc Tryz.prog w 0 spare held m 40 [v] = some y) :
    ∃ A n c xs, v = .slice A n c ∧ IsB w w.heap.size A n xs ∧ n ≤ c ∧ c ≤ maxLen := by
  rcases open_ints Tryz.underlying40 Tryz.underlying5 (by kernel_rfl) h with ⟨hcs, _⟩ | ⟨a, l, c, zs, hcs, _, hl, hm, hz, _, hcell, hwz⟩
  · cases hcs
    exact ⟨none, 0, 0, [], rfl, IsB.nil _ _ _, Nat.le_refl _, by omega⟩
  · cases hcs
    have hlz : l ≤ zs.length := by rw [hz]; split <;> omega
    refine ⟨some a, l, c, (zs.take l).map fun z => UInt8.ofNat z.toNat, rfl, ⟨by rw [List.length_map, List.length_take]; omega, fun hp => ?_⟩, hl, hm⟩
    obtain ⟨b, off, spot⟩ := a
    have h0 := hcell 0 (by omega)
    have hspot : spot = none := by simpa [Addr.add] using World.cell?_spot h0
    subst hspot
    refine ⟨b, off, rfl, by simpa [Addr.add] using World.block_lt_of_cell? w _ h0, fun i hi => ?_⟩
    have hi' : i < l := by rw [List.length_map, List.length_take] at hi; omega
    have h1 := hcell i (by omega)
    rw [show (Addr.add ⟨b, off, none⟩ i : Addr) = ⟨b, off + i, none⟩ by unfold Addr.add; split <;> simp_all] at h1
    have hg : zs.getD i 0 = zs[i]'(by omega) := by simp [List.getD, show i < zs.length by omega]
    rw [h1, hg]
    have hw := u8_wf (hwz _ (List.getElem_mem (by omega : i < zs.length)))
    simp only [List.getElem_map, List.getElem_take, u8v]
    congr 2
    simp only [UInt8.toNat_ofNat']
    omega
theorem open_i64 {m : Nat} {v : Value} {y : DataW H × List MemPlace} (h : DataW.trod enc Tryz.prog w 0 spare held m 3 [v] = some y) : ∃ n : Int, v = .int .i64 n ∧ (Lit.int .i64 n).wf = true := by
  obtain ⟨n, e, _, hw⟩ := DataW.trod_int Tryz.underlying3 h
  cases e
  exact ⟨n, rfl, hw⟩
theorem open_bool' {m : Nat} {v : Value} {y : DataW H × List MemPlace} (h : DataW.trod enc Tryz.prog w 0 spare held m 4 [v] = some y) : ∃ b : Bool, v = .bool b := by
  obtain ⟨n, e, _⟩ := DataW.trod_bool Tryz.underlying4 h
  cases e
  exact ⟨n, rfl⟩
/-! ### A slice of whatever elements, each of so many cells -/
theorem add_plain (b off k : Nat) : Addr.add ⟨b, off, none⟩ k = ⟨b, off + k, none⟩ := by unfold Addr.add; split <;> simp_all
theorem flat_get (s : Nat) : ∀ (rows : List (List Value)), (∀ r ∈ rows, r.length = s) → ∀ i j, j < s → rows.flatten[i * s + j]? = (rows[i]?).bind (·[j]?)
  | [], _, i, j, _ => by simp
  | r :: rows, h, 0, j, hj => by
    have hr := h r (by simp)
    simp only [Nat.zero_mul, Nat.zero_add, List.flatten_cons]
    rw [List.getElem?_append_left (by omega)]
    simp
  | r :: rows, h, i + 1, j, hj => by
    have hr := h r (by simp)
    have ih := flat_get s rows (fun x hx => h x (by simp [hx])) i j hj
    rw [List.flatten_cons, List.getElem?_append_right (by rw [hr, Nat.succ_mul]; omega), show (i + 1) * s + j - r.length = i * s + j by rw [hr, Nat.succ_mul]; omega, ih]
    simp
theorem flat_len (s : Nat) : ∀ (rows : List (List Value)), (∀ r ∈ rows, r.length = s) → rows.flatten.length = rows.length * s
  | [], _ => by simp
  | r :: rows, h => by
    rw [List.flatten_cons, List.length_append, h r (by simp), flat_len s rows (fun x hx => h x (by simp [hx])), List.length_cons, Nat.succ_mul]; omega
theorem open_rows {t e size : Nat} (F : List Value → Prop) (ht : Tryz.prog.underlying t = some (.slice e)) (hs : Tryz.prog.cellsOf e = size) (hpos : 0 < size)
    (hF : ∀ (n : Nat) (cs : List Value) (y : DataW H × List MemPlace), DataW.trod enc Tryz.prog w 0 spare held n e cs = some y → cs.length = size → F cs)
    {m : Nat} {v : Value} {y : DataW H × List MemPlace} (h : DataW.trod enc Tryz.prog w 0 spare held m t [v] = some y) :
    ∃ (A : Option Addr) (n c : Nat) (rows : List (List Value)), v = .slice A n c ∧ rows.length = n ∧ (∀ r ∈ rows, r.length = size ∧ F r) ∧ IsV w w.heap.size size A n rows.flatten ∧ n ≤ c ∧ c ≤ maxLen := by
  rcases open_slice ht h with ⟨hcs, _⟩ | ⟨a, len, cap, k, n, D, Pl, hcs, hb, hl, hm, hk, hx, hi⟩
  · cases hcs
    exact ⟨none, 0, 0, [], rfl, rfl, fun r hr => (by cases hr), IsV.nil _ _ _ _, Nat.le_refl _, by omega⟩
  · cases hcs
    have hlk : len ≤ k := by rw [hk]; split <;> omega
    have hex : ∀ i, ∃ cs : List Value, i < len → cs.length = size ∧ F cs ∧ ∀ j (hj : j < size), w.cell? ((a.add (i * size)).add j) = cs[j]? := by
      intro i
      by_cases hil : i < len
      · obtain ⟨cs', h1, h2⟩ := hi i (by omega)
        rw [hs] at h1
        obtain ⟨_, hcl, hat⟩ := World.cells?_some h1
        exact ⟨cs', fun _ => ⟨hcl, hF _ _ _ h2 hcl, fun j hj => hat j hj⟩⟩
      · exact ⟨[], fun h => absurd h hil⟩
    let R : Nat → List Value := fun i => Classical.choose (hex i)
    have hR : ∀ i, i < len → (R i).length = size ∧ F (R i) ∧ ∀ j (hj : j < size), w.cell? ((a.add (i * size)).add j) = (R i)[j]? := fun i => Classical.choose_spec (hex i)
    have hrow : ∀ r ∈ (List.range len).map R, r.length = size ∧ F r := by
      intro r hr
      obtain ⟨i, hi, rfl⟩ := List.mem_map.1 hr
      exact ⟨(hR i (List.mem_range.1 hi)).1, (hR i (List.mem_range.1 hi)).2.1⟩
    have hlen := flat_len size _ (fun r hr => (hrow r hr).1)
    rw [List.length_map, List.length_range] at hlen
    refine ⟨some a, len, cap, (List.range len).map R, rfl, by simp, hrow, ⟨hlen, fun hp => ?_⟩, hl, hm⟩
    obtain ⟨b, off, spot⟩ := a
    have h0 := (hR 0 hp).2.2 0 hpos
    have h00 : (R 0)[0]? = some ((R 0)[0]'(by rw [(hR 0 hp).1]; exact hpos)) := List.getElem?_eq_getElem _
    rw [h00] at h0
    simp only [Nat.zero_mul, Addr.add, if_true] at h0
    have hspot : spot = none := by simpa using World.cell?_spot h0
    subst hspot
    refine ⟨b, off, rfl, by simpa using World.block_lt_of_cell? w _ h0, fun i hi => ?_⟩
    rw [hlen] at hi
    have hdiv : i / size < len := Nat.div_lt_of_lt_mul (by rw [Nat.mul_comm]; exact hi)
    have hmod : i % size < size := Nat.mod_lt _ hpos
    have hsplit : i / size * size + i % size = i := by rw [Nat.mul_comm]; exact Nat.div_add_mod i size
    have h1 := (hR _ hdiv).2.2 _ hmod
    have h2 := flat_get size ((List.range len).map R) (fun r hr => (hrow r hr).1) (i / size) (i % size) hmod
    rw [hsplit, List.getElem?_map, List.getElem?_range hdiv] at h2
    simp only [Option.map_some, Option.bind_some] at h2
    rw [← h2, List.getElem?_eq_getElem (by rw [hlen]; exact hi)] at h1
    rw [← h1, add_plain, add_plain, Nat.add_assoc, hsplit]
theorem open_bools {m : Nat} {v : Value} {y : DataW H × List MemPlace} (h : DataW.trod enc Tryz.prog w 0 spare held m 224 [v] = some y) :
    ∃ A n c bs, v = .slice A n c ∧ IsV w w.heap.size 1 A n (List.map Value.bool bs) ∧ n ≤ c ∧ c ≤ maxLen := by
  obtain ⟨A, n, c, rows, e, hl, hr, hv, h1, h2⟩ := open_rows (size := 1) (fun cs => ∃ b : Bool, cs = [.bool b]) Tryz.underlying224 (by kernel_rfl) (by omega)
    (fun n cs y h _ => by obtain ⟨b, e, _⟩ := DataW.trod_bool Tryz.underlying4 h; exact ⟨b, e⟩) h
  have hb : ∃ bs : List Bool, rows.flatten = bs.map Value.bool := by
    clear hl hv
    induction rows with
    | nil => exact ⟨[], rfl⟩
    | cons r rows ih =>
      obtain ⟨bs, hbs⟩ := ih (fun r hr' => hr r (by simp [hr']))
      obtain ⟨_, b, rfl⟩ := hr r (by simp)
      exact ⟨b :: bs, by rw [List.flatten_cons, hbs]; rfl⟩
  obtain ⟨bs, hbs⟩ := hb
  exact ⟨A, n, c, bs, e, hbs ▸ hv, h1, h2⟩
end
end Go.Proofs.YtdneeablghlemaaGreatDoor
/- A row of the call's own stays when a block below it is written; a struct's cells, stored one by one. No condition. -/
namespace Go.Proofs.YtdneeablghlemaaGreatDoor
open Go.RowKit Go.ChangeShapes Go.WideShapes Go.ChangeAt Go.Deep
theorem owns_not {w : World} {base : Nat} {v : Value} {e : TypeId} {size n : Nat} {xs : List Value} (h : w.ownsRow base e size v n xs) {g : Nat} (hg : g < base) : v.ownBlock = none ∨ v.ownBlock ≠ some g := by
  rcases hob : v.ownBlock with _ | k
  · exact .inl rfl
  · right
    intro e
    have h1 := (World.ownsRow.lt h k hob).1
    cases e
    omega
theorem OwnB.away {w w' : World} {base g : Nat} {v : Value} {xs : List UInt8} (h : OwnB w base v xs) (hg : w.grownBy w' (some g)) (hb : g < base) : OwnB w' base v xs := h.kept hg (owns_not h hb)
theorem store_cell {w : World} {g : Nat} {t : TypeId} {cs : Array Value} (h : w.heap[g]? = some (.cells cs t (0, 0))) (i : Nat) (v : Value) :
    ∃ w', w.setCell ⟨g, i, none⟩ v = w' ∧ w'.heap[g]? = some (.cells (cs.setIfInBounds i v) t (0, 0)) ∧ w.grownBy w' (some g) :=
  ⟨_, rfl, blk_set h i v, grown_set (grown_refl _ _) rfl _⟩
theorem rows_apart {w : World} {base base' : Nat} {v u : Value} {e e' : TypeId} {size n size' n' : Nat} {xs xs' : List Value} (h : w.ownsRow base e size v n xs) (h' : w.ownsRow base' e' size' u n' xs') (hne : e ≠ e') : v.ownBlock = none ∨ v.ownBlock ≠ u.ownBlock := by
  rcases h.2 with ⟨rfl, _⟩ | ⟨g, cap, cur, rfl, hg, hh, _⟩
  · exact .inl rfl
  · rcases h'.2 with ⟨rfl, _⟩ | ⟨g', cap', cur', rfl, hg', hh', _⟩
    · exact .inr (by intro e; cases e)
    · right
      intro e
      have : g = g' := by simpa [Value.ownBlock] using e
      subst this
      rw [hh] at hh'
      simp at hh'
      exact hne hh'.2
theorem row_weaken {w : World} {base base' : Nat} {v : Value} {e : TypeId} {size n : Nat} {xs : List Value} (h : w.ownsRow base e size v n xs) (hb : base' ≤ base) : w.ownsRow base' e size v n xs :=
  ⟨h.1, h.2.imp id fun ⟨g, cap, cur, h1, h2, h3⟩ => ⟨g, cap, cur, h1, Nat.le_trans hb h2, h3⟩⟩
theorem row_on {w w' : World} {base : Nat} {v : Value} {e : TypeId} {size n : Nat} {xs : List Value} (h : w.ownsRow base e size v n xs) (hb : Below w.heap.size w w') : w'.ownsRow base e size v n xs :=
  World.ownsRow.kept h ⟨hb.os, hb.tape, hb.output, hb.size, fun k hk _ => hb.block k hk⟩ (row := none) (by cases v.ownBlock <;> simp)
theorem row_away {w w' : World} {base g : Nat} {v : Value} {e : TypeId} {size n : Nat} {xs : List Value} (h : w.ownsRow base e size v n xs) (hg : w.grownBy w' (some g)) (hb : g < base) : w'.ownsRow base e size v n xs := World.ownsRow.kept h hg (owns_not h hb)
theorem grownBy_far {a b c : World} {g s : Nat} (h : a.grownBy b (some g)) (k : b.grownBy c (some s)) (hs : a.heap.size ≤ s) : a.grownBy c (some g) :=
  ⟨k.os.trans h.os, k.tape.trans h.tape, k.output.trans h.output, Nat.le_trans h.size k.size, fun i hi hne => (k.block i (Nat.lt_of_lt_of_le hi h.size) (fun e => by cases e; omega)).trans (h.block i hi hne)⟩
theorem grownBy_of {a b : World} {g : Nat} (h : Below a.heap.size a b) : a.grownBy b (some g) := ⟨h.os, h.tape, h.output, h.size, fun i hi _ => h.block i hi⟩
/-- A block that is not the row's stays, and stays apart from it. -/
theorem Grew.box {w w' : World} {v v' : Value} {g : Nat} {x : Obj} (h : Grew w v w' v') (hx : w.heap[g]? = some x) (hv : v.ownBlock ≠ some g) : w'.heap[g]? = some x ∧ v'.ownBlock ≠ some g := by
  have hlt : g < w.heap.size := by
    rcases Nat.lt_or_ge g w.heap.size with h1 | h1
    · exact h1
    · rw [Array.getElem?_eq_none h1] at hx; cases hx
  refine ⟨(h.grown.block g hlt (fun e => hv (by first | exact e | exact e.symm))).trans hx, ?_⟩
  rcases h.moved with e | ⟨k, e, hk⟩
  · rw [e]; exact hv
  · rw [e]; intro e'; cases e'; omega
theorem OwnB.off {w : World} {base g : Nat} {v : Value} {xs : List UInt8} (h : OwnB w base v xs) (hg : w.heap.size ≤ g) : v.ownBlock ≠ some g := fun e => by
  have := (h.lt g e).2
  omega
section
variable {w : World} {g : Nat} {t : TypeId} {a0 a1 a2 a3 a4 a5 : Value}
theorem set6at0 (h : w.heap[g]? = some (.cells #[a0, a1, a2, a3, a4, a5] t (0, 0))) (v : Value) : ∃ w', w.setCell ⟨g, 0, none⟩ v = w' ∧ w'.heap[g]? = some (.cells #[v, a1, a2, a3, a4, a5] t (0, 0)) ∧ w.grownBy w' (some g) := store_cell h 0 v
theorem set6at1 (h : w.heap[g]? = some (.cells #[a0, a1, a2, a3, a4, a5] t (0, 0))) (v : Value) : ∃ w', w.setCell ⟨g, 1, none⟩ v = w' ∧ w'.heap[g]? = some (.cells #[a0, v, a2, a3, a4, a5] t (0, 0)) ∧ w.grownBy w' (some g) := store_cell h 1 v
theorem set6at2 (h : w.heap[g]? = some (.cells #[a0, a1, a2, a3, a4, a5] t (0, 0))) (v : Value) : ∃ w', w.setCell ⟨g, 2, none⟩ v = w' ∧ w'.heap[g]? = some (.cells #[a0, a1, v, a3, a4, a5] t (0, 0)) ∧ w.grownBy w' (some g) := store_cell h 2 v
theorem set6at3 (h : w.heap[g]? = some (.cells #[a0, a1, a2, a3, a4, a5] t (0, 0))) (v : Value) : ∃ w', w.setCell ⟨g, 3, none⟩ v = w' ∧ w'.heap[g]? = some (.cells #[a0, a1, a2, v, a4, a5] t (0, 0)) ∧ w.grownBy w' (some g) := store_cell h 3 v
theorem set6at4 (h : w.heap[g]? = some (.cells #[a0, a1, a2, a3, a4, a5] t (0, 0))) (v : Value) : ∃ w', w.setCell ⟨g, 4, none⟩ v = w' ∧ w'.heap[g]? = some (.cells #[a0, a1, a2, a3, v, a5] t (0, 0)) ∧ w.grownBy w' (some g) := store_cell h 4 v
theorem set6at5 (h : w.heap[g]? = some (.cells #[a0, a1, a2, a3, a4, a5] t (0, 0))) (v : Value) : ∃ w', w.setCell ⟨g, 5, none⟩ v = w' ∧ w'.heap[g]? = some (.cells #[a0, a1, a2, a3, a4, v] t (0, 0)) ∧ w.grownBy w' (some g) := store_cell h 5 v
theorem set6all (h : w.heap[g]? = some (.cells #[a0, a1, a2, a3, a4, a5] t (0, 0))) (v0 v1 v2 v3 v4 v5 : Value) : ∃ w', ((((((w.setCell ⟨g, 0, none⟩ v0).setCell ⟨g, 1, none⟩ v1).setCell ⟨g, 2, none⟩ v2).setCell ⟨g, 3, none⟩ v3).setCell ⟨g, 4, none⟩ v4).setCell ⟨g, 5, none⟩ v5) = w' ∧ w'.heap[g]? = some (.cells #[v0, v1, v2, v3, v4, v5] t (0, 0)) ∧ w.grownBy w' (some g) := by
  refine ⟨_, rfl, ?_, ?_⟩
  · exact blk_set (blk_set (blk_set (blk_set (blk_set (blk_set h 0 v0) 1 v1) 2 v2) 3 v3) 4 v4) 5 v5
  · iterate 6 refine grown_set ?_ rfl _
    exact grown_refl _ _
end
end Go.Proofs.YtdneeablghlemaaGreatDoor
/- octet.Put: a number's bytes, put behind a row of bytes. Conditions: the row is the call's own, at most 8 bytes, sizes below 2^39. -/
namespace Go.Proofs.YtdneeablghlemaaGreatDoor
open Go.RowKit Go.ChangeShapes Go.WideShapes Go.ChangeAt Go.Deep
/-- A number as so many bytes, the highest first. -/
def beB (N : Nat) : Nat → List UInt8
  | 0 => []
  | k + 1 => UInt8.ofNat (N / 256 ^ k) :: beB N k
theorem beB_length (N : Nat) : ∀ k, (beB N k).length = k
  | 0 => rfl
  | k + 1 => by simp [beB, beB_length N k]
theorem u8v_mod (x : Nat) : Value.int .u8 ((x : Int) % 256) = u8v (UInt8.ofNat x) := by
  unfold u8v
  rw [UInt8.toNat_ofNat']
  congr 1
theorem pow_shift (j : Nat) (hj : j ≤ 7) : (2 : Int) ^ min (8 * (j : Int)).toNat 64 = ((256 ^ j : Nat) : Int) := by
  rw [show (8 * (j : Int)).toNat = 8 * j by omega, show min (8 * j) 64 = 8 * j by omega, Int.pow_mul]
  simp
set_option maxHeartbeats 2000000 in
theorem put_any (base : Nat) (v : Value) (xs : List UInt8) (N k : Nat) (w : World) (hown : OwnB w base v xs) (hbase : base ≤ w.heap.size) (_hN : N < 18446744073709551616) (hk : k ≤ 8) (hl : xs.length ≤ 549755813888) :
    Calls Tryz.prog 21 #[v, .int .u64 (N : Int), .int .i64 (k : Int)] w fun e w' => ∃ v', e = .returned v' ∧ OwnB w' base v' (xs ++ beB N k) ∧ Grew w v w' v' := by
  go_enter Tryz.func21, Tryz.ntmps21
  go_wp2_with fail
  go_loopw [0, 7] (fun u i wr => ∃ (j : Nat) (pre : List UInt8), j ≤ k ∧ i = .int .i64 ((j : Int) - 1) ∧ pre ++ beB N j = beB N k ∧ OwnB wr base u (xs ++ pre) ∧ Grew w v wr u) (fun _ i _ => (intOf i + 1).toNat)
  case atStart => exact ⟨k, [], Nat.le_refl _, rfl, rfl, by simpa using hown, Grew.refl _ _⟩
  case round =>
    obtain ⟨j, pre, hj, rfl, hpre, hu, hg⟩ := hrel
    have hpl : pre.length ≤ 8 := by
      have := congrArg List.length hpre
      rw [List.length_append, beB_length, beB_length] at this
      omega
    replace hpre := hide hpre
    replace hu := hide hu
    replace hg := hide hg
    rcases j with _ | i
    · go_wp2_with fail
      go_ret
      have h1 := hpre.out
      simp only [beB, List.append_nil] at h1
      exact ⟨_, rfl, h1 ▸ hu.out, hg.out⟩
    · have e1 : (((i + 1 : Nat) : Int) - 1) = (i : Int) := by omega
      rw [e1]
      have hps := pow_shift i (by omega)
      go_wp2_with (at_builtin; refine wpl_lit_bv rfl (.tmp 16) (.tmp 22) rfl base _ (xs ++ pre) [UInt8.ofNat (N / 256 ^ i)] 1 1 rfl rfl ?_ rfl ?_ ?_ ?_ ?_)
      · rw [List.map_cons, List.map_nil, ← u8v_mod]
        congr 3
        rw [Int.pow_mul]
        simp
      · exact hu.out
      · have := hg.out.grown.size
        omega
      · rw [List.length_append]; omega
      intro v' w' hown' hg'
      go_wp2_with fail
      refine ⟨⟨i, pre ++ [UInt8.ofNat (N / 256 ^ i)], by omega, by go_num, ?_, ?_, hg.out.trans hg'⟩, by simp [intOf] <;> omega⟩
      · have h1 := hpre.out
        simp only [beB] at h1
        rw [← h1]; simp
      · simpa using hown'
theorem put_lit (Ni ki : Int) (N k : Nat) (hNi : Ni = (N : Int)) (hki : ki = (k : Int)) (base : Nat) (v : Value) (xs : List UInt8) (w : World) (hown : OwnB w base v xs) (hbase : base ≤ w.heap.size) (hN : N < 18446744073709551616) (hk : k ≤ 8) (hl : xs.length ≤ 549755813888) :
    Calls Tryz.prog 21 #[v, .int .u64 Ni, .int .i64 ki] w fun e w' => ∃ v', e = .returned v' ∧ OwnB w' base v' (xs ++ beB N k) ∧ Grew w v w' v' := by
  subst hNi hki
  exact put_any base v xs N k w hown hbase hN hk hl
end Go.Proofs.YtdneeablghlemaaGreatDoor
/- Plain: bytes, made again of the number that was read of them. No condition. -/
namespace Go.Proofs.YtdneeablghlemaaGreatDoor
theorem of8m {a b : Nat} (h : a % 256 = b % 256) : UInt8.ofNat a = UInt8.ofNat b := by
  apply UInt8.toNat.inj
  rw [UInt8.toNat_ofNat', UInt8.toNat_ofNat']
  omega
theorem beB_snocM (a b : Nat) (hb : b < 256) : ∀ k, beB (a * 256 + b) (k + 1) = beB a k ++ [UInt8.ofNat b]
  | 0 => by
    simp only [beB, List.nil_append, Nat.pow_zero, Nat.div_one]
    rw [of8m (show (a * 256 + b) % 256 = b % 256 by omega)]
  | k + 1 => by
    have ih := beB_snocM a b hb k
    rw [beB, ih, beB, List.cons_append]
    congr 2
    rw [Nat.pow_succ, Nat.mul_comm (256 ^ k) 256, ← Nat.div_div_eq_div_mul]
    congr 1
    omega
theorem beB_beNM (xs : List UInt8) (p : Nat) : ∀ k, p + k ≤ xs.length → beB (beN xs p k) k = (xs.drop p).take k
  | 0, _ => by simp [beB]
  | k + 1, h => by
    have ih := beB_beNM xs p k (by omega)
    have hlt := (xs.getD (p + k) 0).toNat_lt
    rw [beN, beB_snocM _ _ (by omega), ih, List.take_add_one, List.getElem?_drop]
    congr 1
    have h1 : xs[p + k]? = some xs[p + k] := List.getElem?_eq_getElem (by omega)
    simp [List.getD, h1]
end Go.Proofs.YtdneeablghlemaaGreatDoor
/- octet.All: numbers of one size, put behind a row of bytes. Conditions: the row is the call's own, at most 8 bytes a number, at most 65536 numbers, sizes below 2^38. -/
namespace Go.Proofs.YtdneeablghlemaaGreatDoor
open Go.RowKit Go.ChangeShapes Go.WideShapes Go.ChangeAt Go.Deep
def allB (k : Nat) (ns : List Nat) : List UInt8 := ns.flatMap fun N => beB N k
theorem allB_length (k : Nat) (ns : List Nat) : (allB k ns).length = ns.length * k := by
  induction ns with
  | nil => simp [allB]
  | cons N ns ih => simp only [allB, List.flatMap_cons, List.length_append, beB_length, List.length_cons, Nat.succ_mul] at ih ⊢; omega
theorem allB_take (k : Nat) (ns : List Nat) (j : Nat) (h : j < ns.length) : allB k (ns.take (j + 1)) = allB k (ns.take j) ++ beB ns[j] k := by
  unfold allB
  rw [List.take_succ_eq_append_getElem h, List.flatMap_append]
  simp
def u64v (N : Nat) : Value := .int .u64 (N : Int)
set_option maxHeartbeats 2000000 in
theorem all_any (base : Nat) (v : Value) (xs : List UInt8) (k : Nat) (ki : Int) (hki : ki = (k : Int)) (A : Option Addr) (n c : Nat) (ns : List Nat) (w : World) (hown : OwnB w base v xs) (hbase : base ≤ w.heap.size) (hk : k ≤ 8) (hl : xs.length ≤ 274877906944)
    (B : Nat) (hx : IsV w B 1 A n (ns.map u64v)) (hdis : ∀ b off, A = some ⟨b, off, none⟩ → some b ≠ v.ownBlock) (hBz : B ≤ w.heap.size) (hn : n ≤ 65536) (hN : ∀ N ∈ ns, N < 18446744073709551616) :
    Calls Tryz.prog 47 #[v, .int .i64 ki, .slice A n c] w fun e w' => ∃ v', e = .returned v' ∧ OwnB w' base v' (xs ++ allB k ns) ∧ Grew w v w' v' := by
  subst hki
  have hnl : ns.length = n := by simpa using hx.1
  go_enter Tryz.func47, Tryz.ntmps47
  go_wp2_with fail
  go_loopw [0, 11] (fun u i wr => ∃ j : Nat, j ≤ n ∧ i = .int .i64 (j : Int) ∧ OwnB wr base u (xs ++ allB k (ns.take j)) ∧ Grew w v wr u) (fun _ i _ => n - (intOf i).toNat)
  case atStart => exact ⟨0, Nat.zero_le _, rfl, by simpa [allB] using hown, Grew.refl _ _⟩
  case round =>
    obtain ⟨j, hj, rfl, hu, hg⟩ := hrel
    replace hu := hide hu
    replace hg := hide hg
    by_cases hlt : j < n
    · obtain ⟨b, off, rfl, hbl, hcs⟩ := hx.2 (by omega)
      have hjn : j < ns.length := by omega
      have hcell : wr.cell? ⟨b, off + j, none⟩ = some (u64v ns[j]) := by
        have h1 := hcs j (by rw [List.length_map]; exact hjn)
        rw [List.getElem_map] at h1
        rw [← h1]
        exact World.cell?_of_block (hg.out.grown.block b (by omega) (hdis b off rfl))
      have hNj := hN _ (List.getElem_mem hjn)
      have ht := allB_take k ns j hjn
      obtain ⟨N, hNe⟩ : ∃ N, ns[j] = N := ⟨_, rfl⟩
      rw [hNe] at hcell hNj ht
      clear hcs
      replace hNe := hide hNe
      replace ht := hide ht
      unfold u64v at hcell
      go_wp2_with fail
      refine (put_any base _ _ N k _ hu.out (by have := hg.out.grown.size; omega) hNj hk ?_).mono ?_
      · rw [List.length_append, allB_length, List.length_take]
        have : min j ns.length * k ≤ 65536 * 8 := Nat.mul_le_mul (by omega) hk
        omega
      rintro e w' ⟨v', rfl, hown', hg'⟩
      replace hown' := hide hown'
      replace hg' := hide hg'
      go_wp2_with fail
      exact ⟨⟨j + 1, by omega, by go_num, by rw [ht.out, ← List.append_assoc]; exact hown'.out, hg.out.trans hg'.out⟩, by simp [intOf]; omega⟩
    · have hjn : ns.take j = ns := List.take_of_length_le (by omega)
      go_wp2_with fail
      go_ret
      exact ⟨_, rfl, by rw [← hjn]; exact hu.out, hg.out⟩
end Go.Proofs.YtdneeablghlemaaGreatDoor
/- octet.All over numbers that stand written out. Conditions: as octet.All. -/
namespace Go.Proofs.YtdneeablghlemaaGreatDoor
open Go.RowKit Go.ChangeShapes Go.WideShapes Go.ChangeAt Go.Deep
theorem Grew.ofAlloc {w w' : World} {o : Obj} {v v' : Value} (h : Grew (w.alloc o) v w' v') : Grew w v w' v' :=
  ⟨grown_alloc_left h.grown, h.moved.imp id fun ⟨k, e, hk⟩ => ⟨k, e, by simp at hk; omega⟩⟩
theorem all_lit (base : Nat) (v : Value) (xs : List UInt8) (k : Nat) (ki : Int) (hki : ki = (k : Int)) (ns : List Nat) (vals : List Value) (hv : vals = ns.map u64v) (m c : Nat) (hm : ns.length = m) (t : TypeId) (w : World) (b : Nat) (hb : w.heap.size = b)
    (hown : OwnB w base v xs) (hbase : base ≤ w.heap.size) (hk : k ≤ 8) (hl : xs.length ≤ 274877906944) (hn : m ≤ 65536) (hN : ∀ N ∈ ns, N < 18446744073709551616) :
    Calls Tryz.prog 47 #[v, .int .i64 ki, .slice (some ⟨b, 0, none⟩) m c] (w.alloc (.cells vals.toArray t)) fun e w' => ∃ v', e = .returned v' ∧ OwnB w' base v' (xs ++ allB k ns) ∧ Grew w v w' v' := by
  subst hv hm hb
  refine (all_any base v xs k ki hki (some ⟨w.heap.size, 0, none⟩) ns.length c ns (w.alloc (.cells (ns.map u64v).toArray t)) (hown.alloc _) (by simp; omega) hk hl (w.heap.size + 1) (IsV.lit w t _ c _ (by simp)) ?_ (by simp) hn hN).mono ?_
  · intro b off e he
    have := (hown.lt b he.symm).2
    cases e
    omega
  · rintro e w' ⟨v', rfl, h1, h2⟩
    exact ⟨v', rfl, h1, h2.ofAlloc⟩
end Go.Proofs.YtdneeablghlemaaGreatDoor
