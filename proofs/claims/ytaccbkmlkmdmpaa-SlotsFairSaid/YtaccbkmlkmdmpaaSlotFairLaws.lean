/-
  What is proved here: plain facts on which of many slots is due (chapter 17): the one that is told is among those that are due, none is due before it; done well, one fewer is due. Conditions: none beyond each theorem's own. No program in sight.
-/
import Derived.Test.YtaccbkmlkmdmpaaSlotLaws
namespace Go.Proofs.Ytaccbkmlkmdmpaa

abbrev z0 : Slot := ⟨0, 0, 0⟩

/-- what is told of the first k. -/
def DueIs (L : List Slot) (now : Int) (k : Nat) (r : Int) : Prop :=
  (r = -1 ∧ ∀ i, i < k → now < (L.getD i z0).n) ∨ ∃ j : Nat, r = j ∧ j < k ∧ (L.getD j z0).n ≤ now ∧ ∀ i, i < k → (L.getD i z0).n ≤ now → (L.getD j z0).n ≤ (L.getD i z0).n

theorem dueIs (L : List Slot) (now : Int) : ∀ k, DueIs L now k (dueTo L now k)
  | 0 => .inl ⟨rfl, fun i h => absurd h (by omega)⟩
  | k + 1 => by
    have ih := dueIs L now k
    by_cases h : (L.getD k z0).n ≤ now
    · rcases ih with ⟨h1, h2⟩ | ⟨j, h1, h2, h3, h4⟩
      · right
        refine ⟨k, due_first h (by omega), by omega, h, fun i hi hin => ?_⟩
        by_cases e : i = k
        · subst e; exact Int.le_refl _
        · have := h2 i (by omega); omega
      · by_cases hl : (L.getD k z0).n < (L.getD j z0).n
        · right
          refine ⟨k, due_less h h1 hl, by omega, h, fun i hi hin => ?_⟩
          by_cases e : i = k
          · subst e; exact Int.le_refl _
          · have := h4 i (by omega) hin; omega
        · right
          refine ⟨j, due_more h1 hl, by omega, h3, fun i hi hin => ?_⟩
          by_cases e : i = k
          · subst e; omega
          · exact h4 i (by omega) hin
    · have e := due_no h
      rcases ih with ⟨h1, h2⟩ | ⟨j, h1, h2, h3, h4⟩
      · left
        refine ⟨e.trans h1, fun i hi => ?_⟩
        by_cases e : i = k
        · subst e; omega
        · exact h2 i (by omega)
      · right
        refine ⟨j, e.trans h1, by omega, h3, fun i hi hin => ?_⟩
        by_cases e : i = k
        · subst e; exact absurd hin h
        · exact h4 i (by omega) hin

theorem wake_above (L : List Slot) (now : Int) : ∀ k, 0 < k → (∀ i, i < k → now < (L.getD i z0).n) → now < wakeTo L k
  | 0, h, _ => absurd h (by omega)
  | k + 1, _, h => by
    by_cases e : k = 0
    · subst e
      rw [wake_first]
      exact h 0 (by omega)
    · rw [wake_step L (by omega)]
      have a := wake_above L now k (by omega) (fun i hi => h i (by omega))
      have b := h k (by omega)
      show now < min _ (L.getD k z0).n
      omega

/-- how many are due. -/
def dueMany (now : Int) (L : List Slot) : Nat := L.countP (fun s => decide (s.n ≤ now))

theorem due_some {now : Int} {L : List Slot} (h : 0 < dueMany now L) : ∃ i, i < L.length ∧ (L.getD i z0).n ≤ now := by
  obtain ⟨s, hs, hp⟩ := List.countP_pos_iff.1 h
  obtain ⟨i, hi, e⟩ := List.getElem_of_mem hs
  refine ⟨i, hi, ?_⟩
  rw [List.getD_eq_getElem?_getD, List.getElem?_eq_getElem hi, e]
  simpa using hp
theorem due_none {now : Int} {L : List Slot} (h : dueMany now L = 0) : ∀ i, i < L.length → now < (L.getD i z0).n := by
  intro i hi
  have := List.countP_eq_zero.1 h (L[i]) (List.getElem_mem hi)
  rw [List.getD_eq_getElem?_getD, List.getElem?_eq_getElem hi]
  simp at this
  simpa using this

theorem due_fewer {now : Int} {L : List Slot} {j : Nat} (hj : j < L.length) (h : (L.getD j z0).n ≤ now) (x : Slot) (hx : now < x.n) : dueMany now (L.set j x) + 1 = dueMany now L := by
  have hp : 0 < dueMany now L := List.countP_pos_iff.2 ⟨L[j], List.getElem_mem hj, by
    rw [List.getD_eq_getElem?_getD, List.getElem?_eq_getElem hj] at h
    simpa using h⟩
  unfold dueMany at *
  rw [List.countP_set hj]
  rw [List.getD_eq_getElem?_getD, List.getElem?_eq_getElem hj] at h
  have h1 : decide (L[j].n ≤ now) = true := by simpa using h
  have h2 : decide (x.n ≤ now) = false := by simp; omega
  rw [h1, h2]
  simp
  omega

/-- what holds ahead of each time that one is done: O the slots, D which were done, last the last time, n how many were. -/
structure Fair (now : Int) (O : List Slot) (D : Nat → Bool) (last : Int) (left : Nat) : Prop where
  ok : ∀ i, i < O.length → (O.getD i z0).Ok
  did : ∀ i, i < O.length → D i = true → now < (O.getD i z0).n
  many : dueMany now O = left
  low : ∀ i, i < O.length → (O.getD i z0).n ≤ now → last ≤ (O.getD i z0).n

theorem Fair.step {now last : Int} {O : List Slot} {D : Nat → Bool} {left : Nat} (h : Fair now O D last (left + 1)) (an : Int → Int → Int)
    (hx : ∀ s : Slot, s.Ok → now < an s.e s.n) (hok : ∀ s : Slot, s.Ok → s.n ≤ now → Slot.Ok ⟨s.e, an s.e s.n, 0⟩) :
    ∃ j : Nat, dueTo O now O.length = j ∧ j < O.length ∧ D j = false ∧ last ≤ (O.getD j z0).n ∧ (O.getD j z0).n ≤ now ∧ (O.getD j z0).Ok ∧
      Fair now (O.set j ⟨(O.getD j z0).e, an (O.getD j z0).e (O.getD j z0).n, 0⟩) (fun i => if i = j then true else D i) (O.getD j z0).n left := by
  obtain ⟨i0, hi0, hin0⟩ := due_some (now := now) (L := O) (by rw [h.many]; omega)
  rcases dueIs O now O.length with ⟨_, h2⟩ | ⟨j, h1, h2, h3, h4⟩
  · have := h2 i0 hi0; omega
  · refine ⟨j, h1, h2, ?_, h.low j h2 h3, h3, h.ok j h2, ?_⟩
    · cases hD : D j with
      | false => rfl
      | true => have := h.did j h2 hD; omega
    · have hset : ∀ i, i < O.length → ∀ x : Slot, (O.set j x).getD i z0 = if i = j then x else O.getD i z0 := by
        intro i hi x
        rw [List.getD_eq_getElem?_getD, List.getElem?_set]
        by_cases e : j = i
        · subst e; simp [h2]
        · simp [e, show ¬ i = j by omega, List.getD_eq_getElem?_getD]
      refine ⟨fun i hi => ?_, fun i hi hd => ?_, ?_, fun i hi hin => ?_⟩
      · rw [List.length_set] at hi
        rw [hset i hi]
        split
        · exact hok _ (h.ok j h2) h3
        · exact h.ok i hi
      · rw [List.length_set] at hi
        rw [hset i hi]
        split
        · exact hx _ (h.ok j h2)
        · rename_i e
          exact h.did i hi (by simpa [e] using hd)
      · have := due_fewer (now := now) h2 h3 ⟨(O.getD j z0).e, an (O.getD j z0).e (O.getD j z0).n, 0⟩ (hx _ (h.ok j h2))
        rw [h.many] at this
        omega
      · rw [List.length_set] at hi
        rw [hset i hi] at hin ⊢
        by_cases e : i = j
        · rw [if_pos e] at hin
          have := hx _ (h.ok j h2)
          dsimp only at hin
          omega
        · rw [if_neg e] at hin ⊢
          exact h4 i hi hin
end Go.Proofs.Ytaccbkmlkmdmpaa
