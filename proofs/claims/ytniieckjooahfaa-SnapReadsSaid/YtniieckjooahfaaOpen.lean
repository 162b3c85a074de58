/- How the arguments of the statements are opened: bytes, numbers, structs. No condition. -/
import Derived.Test.YtniieckjooahfaaMem
import Derived.Test.YtniieckjooahfaaProg
namespace Go.Proofs.Ytniieckjooahfaa
open Go.RowKit Go.ChangeShapes Go.WideShapes Go.ChangeAt Go.Deep
theorem own : ownKnob Try.prog.godebug = none := by kernel_rfl
theorem laidOut : laidOutB Try.prog = true := by kernel_rfl
section
variable {H : Type} {enc : TypeId × Value → H} {w : World} {spare : Nat → Bool} {held : Bool}
theorem open_bytes {m : Nat} {v : Value} {y : DataW H × List MemPlace} (h : DataW.trod enc Try.prog w 0 spare held m 35 [v] = some y) :
    ∃ A n c xs, v = .slice A n c ∧ IsB w w.heap.size A n xs ∧ n ≤ c ∧ c ≤ maxLen := by
  rcases open_ints Try.underlying35 Try.underlying5 (by kernel_rfl) h with ⟨hcs, _⟩ | ⟨a, l, c, zs, hcs, _, hl, hm, hz, _, hcell, hwz⟩
  · cases hcs
    exact ⟨none, 0, 0, [], rfl, IsB.nil _ _ _, Nat.le_refl _, by omega⟩
  · cases hcs
    have hlz : l ≤ zs.length := by rw [hz]; split <;> omega
    refine ⟨some a, l, c, (zs.take l).map fun z => UInt8.ofNat z.toNat, rfl, ⟨by rw [List.length_map, List.length_take]; omega, fun hp => ?_⟩, hl, hm⟩
    obtain ⟨b, off, spot⟩ := a
    have h0 := hcell 0 (by omega)
    have hspot : spot = none := by simpa [Addr.add] using World.cell?_spot h0
    subst hspot
    refine ⟨b, off, rfl, by simpa [Addr.add] using World.block_lt_of_cell? w _ h0, fun i hi => ?_⟩
    have hi' : i < l := by rw [List.length_map, List.length_take] at hi; omega
    have h1 := hcell i (by omega)
    rw [show (Addr.add ⟨b, off, none⟩ i : Addr) = ⟨b, off + i, none⟩ by unfold Addr.add; split <;> simp_all] at h1
    have hg : zs.getD i 0 = zs[i]'(by omega) := by simp [List.getD, show i < zs.length by omega]
    rw [h1, hg]
    have hw := u8_wf (hwz _ (List.getElem_mem (by omega : i < zs.length)))
    simp only [List.getElem_map, List.getElem_take, u8v]
    congr 2
    simp only [UInt8.toNat_ofNat']
    omega
theorem open_i64 {m : Nat} {v : Value} {y : DataW H × List MemPlace} (h : DataW.trod enc Try.prog w 0 spare held m 3 [v] = some y) : ∃ n : Int, v = .int .i64 n ∧ (Lit.int .i64 n).wf = true := by
  obtain ⟨n, e, _, hw⟩ := DataW.trod_int Try.underlying3 h
  cases e
  exact ⟨n, rfl, hw⟩
theorem open_bool' {m : Nat} {v : Value} {y : DataW H × List MemPlace} (h : DataW.trod enc Try.prog w 0 spare held m 4 [v] = some y) : ∃ b : Bool, v = .bool b := by
  obtain ⟨n, e, _⟩ := DataW.trod_bool Try.underlying4 h
  cases e
  exact ⟨n, rfl⟩
/-! ### A slice of whatever elements, each of so many cells -/
theorem add_plain (b off k : Nat) : Addr.add ⟨b, off, none⟩ k = ⟨b, off + k, none⟩ := by unfold Addr.add; split <;> simp_all
theorem flat_get (s : Nat) : ∀ (rows : List (List Value)), (∀ r ∈ rows, r.length = s) → ∀ i j, j < s → rows.flatten[i * s + j]? = (rows[i]?).bind (·[j]?)
  | [], _, i, j, _ => by simp
  | r :: rows, h, 0, j, hj => by
    have hr := h r (by simp)
    simp only [Nat.zero_mul, Nat.zero_add, List.flatten_cons]
    rw [List.getElem?_append_left (by omega)]
    simp
  | r :: rows, h, i + 1, j, hj => by
    have hr := h r (by simp)
    have ih := flat_get s rows (fun x hx => h x (by simp [hx])) i j hj
    rw [List.flatten_cons, List.getElem?_append_right (by rw [hr, Nat.succ_mul]; omega), show (i + 1) * s + j - r.length = i * s + j by rw [hr, Nat.succ_mul]; omega, ih]
    simp
theorem flat_len (s : Nat) : ∀ (rows : List (List Value)), (∀ r ∈ rows, r.length = s) → rows.flatten.length = rows.length * s
  | [], _ => by simp
  | r :: rows, h => by
    rw [List.flatten_cons, List.length_append, h r (by simp), flat_len s rows (fun x hx => h x (by simp [hx])), List.length_cons, Nat.succ_mul]; omega
theorem open_rows {t e size : Nat} (F : List Value → Prop) (ht : Try.prog.underlying t = some (.slice e)) (hs : Try.prog.cellsOf e = size) (hpos : 0 < size)
    (hF : ∀ (n : Nat) (cs : List Value) (y : DataW H × List MemPlace), DataW.trod enc Try.prog w 0 spare held n e cs = some y → cs.length = size → F cs)
    {m : Nat} {v : Value} {y : DataW H × List MemPlace} (h : DataW.trod enc Try.prog w 0 spare held m t [v] = some y) :
    ∃ (A : Option Addr) (n c : Nat) (rows : List (List Value)), v = .slice A n c ∧ rows.length = n ∧ (∀ r ∈ rows, r.length = size ∧ F r) ∧ IsV w w.heap.size size A n rows.flatten ∧ n ≤ c ∧ c ≤ maxLen := by
  rcases open_slice ht h with ⟨hcs, _⟩ | ⟨a, len, cap, k, n, D, Pl, hcs, hb, hl, hm, hk, hx, hi⟩
  · cases hcs
    exact ⟨none, 0, 0, [], rfl, rfl, fun r hr => (by cases hr), IsV.nil _ _ _ _, Nat.le_refl _, by omega⟩
  · cases hcs
    have hlk : len ≤ k := by rw [hk]; split <;> omega
    have hex : ∀ i, ∃ cs : List Value, i < len → cs.length = size ∧ F cs ∧ ∀ j (hj : j < size), w.cell? ((a.add (i * size)).add j) = cs[j]? := by
      intro i
      by_cases hil : i < len
      · obtain ⟨cs', h1, h2⟩ := hi i (by omega)
        rw [hs] at h1
        obtain ⟨_, hcl, hat⟩ := World.cells?_some h1
        exact ⟨cs', fun _ => ⟨hcl, hF _ _ _ h2 hcl, fun j hj => hat j hj⟩⟩
      · exact ⟨[], fun h => absurd h hil⟩
    let R : Nat → List Value := fun i => Classical.choose (hex i)
    have hR : ∀ i, i < len → (R i).length = size ∧ F (R i) ∧ ∀ j (hj : j < size), w.cell? ((a.add (i * size)).add j) = (R i)[j]? := fun i => Classical.choose_spec (hex i)
    have hrow : ∀ r ∈ (List.range len).map R, r.length = size ∧ F r := by
      intro r hr
      obtain ⟨i, hi, rfl⟩ := List.mem_map.1 hr
      exact ⟨(hR i (List.mem_range.1 hi)).1, (hR i (List.mem_range.1 hi)).2.1⟩
    have hlen := flat_len size _ (fun r hr => (hrow r hr).1)
    rw [List.length_map, List.length_range] at hlen
    refine ⟨some a, len, cap, (List.range len).map R, rfl, by simp, hrow, ⟨hlen, fun hp => ?_⟩, hl, hm⟩
    obtain ⟨b, off, spot⟩ := a
    have h0 := (hR 0 hp).2.2 0 hpos
    have h00 : (R 0)[0]? = some ((R 0)[0]'(by rw [(hR 0 hp).1]; exact hpos)) := List.getElem?_eq_getElem _
    rw [h00] at h0
    simp only [Nat.zero_mul, Addr.add, if_true] at h0
    have hspot : spot = none := by simpa using World.cell?_spot h0
    subst hspot
    refine ⟨b, off, rfl, by simpa using World.block_lt_of_cell? w _ h0, fun i hi => ?_⟩
    rw [hlen] at hi
    have hdiv : i / size < len := Nat.div_lt_of_lt_mul (by rw [Nat.mul_comm]; exact hi)
    have hmod : i % size < size := Nat.mod_lt _ hpos
    have hsplit : i / size * size + i % size = i := by rw [Nat.mul_comm]; exact Nat.div_add_mod i size
    have h1 := (hR _ hdiv).2.2 _ hmod
    have h2 := flat_get size ((List.range len).map R) (fun r hr => (hrow r hr).1) (i / size) (i % size) hmod
    rw [hsplit, List.getElem?_map, List.getElem?_range hdiv] at h2
    simp only [Option.map_some, Option.bind_some] at h2
    rw [← h2, List.getElem?_eq_getElem (by rw [hlen]; exact hi)] at h1
    rw [← h1, add_plain, add_plain, Nat.add_assoc, hsplit]
theorem open_bools {m : Nat} {v : Value} {y : DataW H × List MemPlace} (h : DataW.trod enc Try.prog w 0 spare held m 30 [v] = some y) :
    ∃ A n c bs, v = .slice A n c ∧ IsV w w.heap.size 1 A n (List.map Value.bool bs) ∧ n ≤ c ∧ c ≤ maxLen := by
  obtain ⟨A, n, c, rows, e, hl, hr, hv, h1, h2⟩ := open_rows (size := 1) (fun cs => ∃ b : Bool, cs = [.bool b]) Try.underlying30 (by kernel_rfl) (by omega)
    (fun n cs y h _ => by obtain ⟨b, e, _⟩ := DataW.trod_bool Try.underlying4 h; exact ⟨b, e⟩) h
  have hb : ∃ bs : List Bool, rows.flatten = bs.map Value.bool := by
    clear hl hv
    induction rows with
    | nil => exact ⟨[], rfl⟩
    | cons r rows ih =>
      obtain ⟨bs, hbs⟩ := ih (fun r hr' => hr r (by simp [hr']))
      obtain ⟨_, b, rfl⟩ := hr r (by simp)
      exact ⟨b :: bs, by rw [List.flatten_cons, hbs]; rfl⟩
  obtain ⟨bs, hbs⟩ := hb
  exact ⟨A, n, c, bs, e, hbs ▸ hv, h1, h2⟩
end
end Go.Proofs.Ytniieckjooahfaa
