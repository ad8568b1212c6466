/-
  What is proved here: plain facts on steps of an alarm (chapter 8). Conditions: none beyond each theorem's own. No program in sight.
-/
import Derived.Test.YtgkhdoklbbedpaaAlmLaws
namespace Go.Proofs.Ytgkhdoklbbedpaa

/-- the ways of a step. -/
theorem step_ways (l : Lim) (a : Alm) (v : Int) :
    (stepTo l a v = (a, 0)) ∨
    (l.Ok ∧ a.Fine ∧ l.low v = true ∧ a.st ≠ 1 ∧ stepTo l a v = (⟨1, true⟩, 1)) ∨
    (l.Ok ∧ a.Fine ∧ l.low v = false ∧ l.high v = true ∧ a.st ≠ 2 ∧ stepTo l a v = (⟨2, true⟩, 2)) ∨
    (l.Ok ∧ a.Fine ∧ l.low v = false ∧ l.high v = false ∧ ((a.st = 1 ∧ l.back1 v = true) ∨ (a.st = 2 ∧ l.back2 v = true)) ∧ ¬ (l.la = true ∧ a.wt = true) ∧ stepTo l a v = (⟨0, a.wt⟩, 3)) := by
  by_cases h : l.Ok ∧ a.Fine
  rotate_left
  · left; unfold stepTo; rw [if_neg h]
  obtain ⟨h1, h2⟩ := id h
  cases hl : l.low v with
  | true =>
    by_cases hs : a.st = 1
    · left; unfold stepTo; rw [if_pos h, if_pos hl, if_pos hs]
    · right; left; refine ⟨h1, h2, rfl, hs, ?_⟩; unfold stepTo; rw [if_pos h, if_pos hl, if_neg hs]
  | false =>
    cases hh : l.high v with
    | true =>
      by_cases hs : a.st = 2
      · left; unfold stepTo; rw [if_pos h, if_neg (by rw [hl]; simp), if_pos hh, if_pos hs]
      · right; right; left; refine ⟨h1, h2, rfl, rfl, hs, ?_⟩; unfold stepTo; rw [if_pos h, if_neg (by rw [hl]; simp), if_pos hh, if_neg hs]
    | false =>
      by_cases hb : ((a.st = 1 ∧ l.back1 v = true) ∨ (a.st = 2 ∧ l.back2 v = true)) ∧ ¬ (l.la = true ∧ a.wt = true)
      · right; right; right; refine ⟨h1, h2, rfl, rfl, hb.1, hb.2, ?_⟩; unfold stepTo; rw [if_pos h, if_neg (by rw [hl]; simp), if_neg (by rw [hh]; simp), if_pos hb]
      · left; unfold stepTo; rw [if_pos h, if_neg (by rw [hl]; simp), if_neg (by rw [hh]; simp), if_neg hb]
theorem step_same (l : Lim) (a : Alm) (v : Int) : decide ((stepTo l a v).2 = 0) = decide ((stepTo l a v).1 = a) := by
  rw [decide_eq_decide]
  rcases step_ways l a v with h | ⟨_, _, _, h1, h⟩ | ⟨_, _, _, _, h1, h⟩ | ⟨_, _, _, _, h1, _, h⟩ <;> rw [h]
  · simp
  · simp only []
    constructor
    · intro e; omega
    · intro e; rw [← e] at h1; exact absurd rfl h1
  · simp only []
    constructor
    · intro e; omega
    · intro e; rw [← e] at h1; exact absurd rfl h1
  · simp only []
    constructor
    · intro e; omega
    · intro e
      have e1 : a.st = 0 := by rw [← e]
      omega
theorem step_twice (l : Lim) (a : Alm) (v : Int) : stepTo l (stepTo l a v).1 v = ((stepTo l a v).1, 0) := by
  rcases step_ways l a v with h | ⟨h0, _, hl, h1, h⟩ | ⟨h0, _, hl, hh, h1, h⟩ | ⟨h0, _, hl, hh, h1, _, h⟩
  · rw [h]; exact h
  · rw [h]; simp only []
    unfold stepTo; rw [if_pos ⟨h0, by unfold Alm.Fine; dsimp only; omega⟩, if_pos hl, if_pos rfl]
  · rw [h]; simp only []
    unfold stepTo; rw [if_pos ⟨h0, by unfold Alm.Fine; dsimp only; omega⟩, if_neg (by rw [hl]; simp), if_pos hh, if_pos rfl]
  · rw [h]; simp only []
    unfold stepTo; rw [if_pos ⟨h0, by unfold Alm.Fine; dsimp only; omega⟩, if_neg (by rw [hl]; simp), if_neg (by rw [hh]; simp), if_neg (by simp)]
/-- is a value neither low nor high? -/
def Lim.inside (l : Lim) (v : Int) : Bool := (!l.ul || decide (l.lo < v)) && (!l.uh || decide (v < l.hi))
theorem inside_not {l : Lim} {v : Int} (h : l.inside v = true) : l.low v = false ∧ l.high v = false := by
  unfold Lim.inside at h
  unfold Lim.low Lim.high
  cases h1 : l.ul <;> cases h2 : l.uh <;> simp [h1, h2] at h ⊢ <;> omega
theorem inside_calm {l : Lim} {v : Int} {b : Bool} (h : l.inside v = true) : stepTo l ⟨0, b⟩ v = (⟨0, b⟩, 0) := by
  obtain ⟨h1, h2⟩ := inside_not h
  rcases step_ways l ⟨0, b⟩ v with h | ⟨_, _, x, _⟩ | ⟨_, _, _, x, _⟩ | ⟨_, _, _, _, x, _⟩
  · exact h
  · rw [h1] at x; cases x
  · rw [h2] at x; cases x
  · simp at x
end Go.Proofs.Ytgkhdoklbbedpaa
