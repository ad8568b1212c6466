/-
  What is proved here: in a table the names rise, and each is found at its own place (chapter 9). Conditions: each theorem's own.
-/
import Derived.Test.YthnhholpkomdhaaTagFind
namespace Go.Proofs.Ythnhholpkomdhaa
open Go.RowKit Go.Deep

theorem less_irrefl : ∀ x : List UInt8, Op.bytesLess x x = false
  | [] => rfl
  | a :: x => by
    rw [Op.bytesLess, less_irrefl x]
    simp
theorem less_trans : ∀ x y z : List UInt8, Op.bytesLess x y = true → Op.bytesLess y z = true → Op.bytesLess x z = true
  | _, _, [], _, h2 => by cases h : Op.bytesLess _ ([] : List UInt8) <;> simp_all [Op.bytesLess]
  | _, [], _ :: _, h1, _ => by simp [Op.bytesLess] at h1
  | [], _ :: _, _ :: _, _, _ => rfl
  | a :: x, b :: y, c :: z, h1, h2 => by
    simp only [Op.bytesLess, Bool.or_eq_true, Bool.and_eq_true, decide_eq_true_eq, beq_iff_eq] at h1 h2 ⊢
    rcases h1 with h1 | ⟨rfl, h1⟩
    · rcases h2 with h2 | ⟨rfl, h2⟩
      · left; simp only [UInt8.lt_iff_toNat_lt] at h1 h2 ⊢; omega
      · exact .inl h1
    · rcases h2 with h2 | ⟨rfl, h2⟩
      · exact .inl h2
      · exact .inr ⟨rfl, less_trans x y z h1 h2⟩
theorem less_total : ∀ x y : List UInt8, Op.bytesLess x y = false → (x == y) = false → Op.bytesLess y x = true
  | [], [], _, h => by simp at h
  | [], _ :: _, h, _ => by simp [Op.bytesLess] at h
  | _ :: _, [], _, _ => rfl
  | a :: x, b :: y, h1, h2 => by
    simp only [Op.bytesLess, Bool.or_eq_false_iff, decide_eq_false_iff_not] at h1
    simp only [Op.bytesLess, Bool.or_eq_true, Bool.and_eq_true, decide_eq_true_eq, beq_iff_eq]
    by_cases e : a = b
    · subst e
      simp at h1
      have h3 : (x == y) = false := by simpa using h2
      exact .inr ⟨rfl, less_total x y h1 h3⟩
    · left
      have h3 := h1.1
      have h4 : a.toNat ≠ b.toNat := fun hh => e (UInt8.toNat_inj.1 hh)
      simp only [UInt8.lt_iff_toNat_lt] at h3 ⊢
      omega
theorem sEq_iff (a b : ByteArray) : sEq a b = true ↔ a.toList = b.toList := by unfold sEq; exact beq_iff_eq

/-- a table: nothing is wrong at any place. -/
def Table (L : List Tag) : Prop := ∀ j, j < L.length → tagAt L j = 0
theorem all_zero {L : List Tag} (h : (allOf L).1 = 0) : (allOf L).2 = 0 ∧ L.length ≤ 64 ∧ Table L := by
  unfold allOf at h ⊢
  by_cases h64 : 64 < L.length
  · rw [if_pos h64] at h
    simp at h
  · rw [if_neg h64] at h ⊢
    cases hf : (List.range L.length).find? (fun i => decide (tagAt L i ≠ 0)) with
    | none =>
      rw [hf] at h
      refine ⟨rfl, by omega, fun j hj => ?_⟩
      have := List.find?_eq_none.1 hf j (List.mem_range.2 hj)
      simpa using this
    | some i =>
      rw [hf] at h
      have := List.find?_some hf
      simp at this
      exact absurd h this
theorem all_wrong {L : List Tag} (h : (allOf L).1 ≠ 0) : (allOf L).2 < L.length := by
  unfold allOf at h ⊢
  by_cases h64 : 64 < L.length
  · rw [if_pos h64]
    show 0 < L.length
    omega
  · rw [if_neg h64] at h ⊢
    cases hf : (List.range L.length).find? (fun i => decide (tagAt L i ≠ 0)) with
    | none => rw [hf] at h; simp at h
    | some i =>
      have := List.mem_of_find?_eq_some hf
      exact List.mem_range.1 this
theorem Table.err {L : List Tag} (h : Table L) {j : Nat} (hj : j < L.length) : (L.getD j t0).err = 0 := by
  have := h j hj
  unfold tagAt at this
  by_cases e : (L.getD j t0).err = 0
  · exact e
  · rw [if_pos e] at this
    exact this
theorem Table.step {L : List Tag} (h : Table L) {j : Nat} (hj : j + 1 < L.length) : Op.bytesLess (L.getD j t0).g.toList (L.getD (j + 1) t0).g.toList = true := by
  have h1 := h (j + 1) hj
  have h2 := h.err hj
  unfold tagAt at h1
  rw [if_neg (by rw [h2]; simp)] at h1
  rw [decide_eq_true (Nat.succ_pos j), Bool.true_and, Bool.true_and, Nat.add_sub_cancel] at h1
  cases h3 : sEq (L.getD (j + 1) t0).g (L.getD j t0).g with
  | true => rw [h3] at h1; simp at h1
  | false =>
    cases h4 : sLt (L.getD (j + 1) t0).g (L.getD j t0).g with
    | true => rw [h3, h4] at h1; simp at h1
    | false => exact less_total _ _ h4 h3
theorem Table.rise {L : List Tag} (h : Table L) {j : Nat} : ∀ d, j + d + 1 < L.length → Op.bytesLess (L.getD j t0).g.toList (L.getD (j + d + 1) t0).g.toList = true
  | 0, hj => h.step hj
  | d + 1, hj => less_trans _ _ _ (h.rise d (by omega)) (h.step hj)
theorem Table.apart {L : List Tag} (h : Table L) {j k : Nat} (hjk : j < k) (hk : k < L.length) : sEq (L.getD j t0).g (L.getD k t0).g = false := by
  have h1 := h.rise (j := j) (k - j - 1) (by omega)
  rw [show j + (k - j - 1) + 1 = k by omega] at h1
  cases h2 : sEq (L.getD j t0).g (L.getD k t0).g with
  | false => rfl
  | true =>
    rw [(sEq_iff _ _).1 h2, less_irrefl] at h1
    cases h1
theorem sEq_refl (a : ByteArray) : sEq a a = true := (sEq_iff _ _).2 rfl
theorem Table.found {L : List Tag} (h : Table L) {k : Nat} (hk : k < L.length) : findOf L (L.getD k t0).g = (k : Int) :=
  findOf_at hk (fun _ hj => h.apart hj hk) (sEq_refl _)
theorem findOf_lt (L : List Tag) (g : ByteArray) : findOf L g < (L.length : Int) := by
  unfold findOf
  cases hf : (List.range L.length).find? (fun i => sEq (L.getD i t0).g g) with
  | none => show (-1 : Int) < _; omega
  | some i =>
    have := List.mem_range.1 (List.mem_of_find?_eq_some hf)
    show (i : Int) < _
    omega
/-- where a name is, of the first places. -/
def thereTo (L : List Tag) (g : ByteArray) (k : Nat) : Int :=
  match (List.range k).find? (fun i => sEq (L.getD i t0).g g) with
  | some i => (i : Int)
  | none => -1
theorem thereTo_all (L : List Tag) (g : ByteArray) : thereTo L g L.length = findOf L g := rfl
theorem thereTo_no {L : List Tag} {g : ByteArray} {k : Nat} (h : sEq (L.getD k t0).g g = false) : thereTo L g (k + 1) = thereTo L g k := by
  unfold thereTo
  rw [List.range_succ, List.find?_append]
  cases (List.range k).find? (fun i => sEq (L.getD i t0).g g) with
  | some i => rfl
  | none => simp only [List.find?_cons, h]; rfl
theorem thereTo_yes {L : List Tag} {g : ByteArray} {k : Nat} (hT : Table L) (hk : k < L.length) (h : sEq (L.getD k t0).g g = true) : thereTo L g (k + 1) = (k : Int) := by
  unfold thereTo
  rw [find_range (p := fun i => sEq (L.getD i t0).g g) (Nat.lt_succ_self k) h (fun j hj => ?_)]
  cases h2 : sEq (L.getD j t0).g g with
  | false => rfl
  | true =>
    have := hT.apart hj hk
    rw [(sEq_iff _ _).2 (((sEq_iff _ _).1 h2).trans ((sEq_iff _ _).1 h).symm)] at this
    cases this
end Go.Proofs.Ythnhholpkomdhaa
