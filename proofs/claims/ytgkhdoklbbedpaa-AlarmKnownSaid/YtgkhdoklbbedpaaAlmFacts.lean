/-
  What is proved here: plain facts on steps of an alarm (chapter 8). Conditions: none beyond each theorem's own. No program in sight.
-/
import Derived.Test.YtgkhdoklbbedpaaAlmLaws
namespace Go.Proofs.Ytgkhdoklbbedpaa

/-- the ways of a step. -/
theorem step_ways (l : Lim) (a : Alm) (v : Int) :
    (stepTo l a v = (a, 0)) ∨
    (l.Ok ∧ a.Fine ∧ l.low v = true ∧ a.st ≠ 1 ∧ stepTo l a v = (⟨1, true⟩, 1)) ∨
    (l.Ok ∧ a.Fine ∧ l.low v = false ∧ l.high v = true ∧ a.st ≠ 2 ∧ stepTo l a v = (⟨2, true⟩, 2)) ∨
    (l.Ok ∧ a.Fine ∧ l.low v = false ∧ l.high v = false ∧ ((a.st = 1 ∧ l.back1 v = true) ∨ (a.st = 2 ∧ l.back2 v = true)) ∧ ¬ (l.la = true ∧ a.wt = true) ∧ stepTo l a v = (⟨0, a.wt⟩, 3)) := by
  by_cases h : l.Ok ∧ a.Fine
  rotate_left
  · left; unfold stepTo; rw [if_neg h]
  obtain ⟨h1, h2⟩ := id h
  cases hl : l.low v with
  | true =>
    by_cases hs : a.st = 1
    · left; unfold stepTo; rw [if_pos h, if_pos hl, if_pos hs]
    · right; left; refine ⟨h1, h2, rfl, hs, ?_⟩; unfold stepTo; rw [if_pos h, if_pos hl, if_neg hs]
  | false =>
    cases hh : l.high v with
    | true =>
      by_cases hs : a.st = 2
      · left; unfold stepTo; rw [if_pos h, if_neg (by rw [hl]; simp), if_pos hh, if_pos hs]
      · right; right; left; refine ⟨h1, h2, rfl, rfl, hs, ?_⟩; unfold stepTo; rw [if_pos h, if_neg (by rw [hl]; simp), if_pos hh, if_neg hs]
    | false =>
      by_cases hb : ((a.st = 1 ∧ l.back1 v = true) ∨ (a.st = 2 ∧ l.back2 v = true)) ∧ ¬ (l.la = true ∧ a.wt = true)
      · right; right; right; refine ⟨h1, h2, rfl, rfl, hb.1, hb.2, ?_⟩; unfold stepTo; rw [if_pos h, if_neg (by rw [hl]; simp), if_neg (by rw [hh]; simp), if_pos hb]
      · left; unfold stepTo; rw [if_pos h, if_neg (by rw [hl]; simp), if_neg (by rw [hh]; simp), if_neg hb]
theorem step_same (l : Lim) (a : Alm) (v : Int) : decide ((stepTo l a v).2 = 0) = decide ((stepTo l a v).1 = a) := by
  rw [decide_eq_decide]
  rcases step_ways l a v with h | ⟨_, _, _, h1, h⟩ | ⟨_, _, _, _, h1, h⟩ | ⟨_, _, _, _, h1, _, h⟩ <;> rw [h]
  · simp
  · simp only []
    constructor
    · intro e; omega
    · intro e; rw [← e] at h1; exact absurd rfl h1
  · simp only []
    constructor
    · intro e; omega
    · intro e; rw [← e] at h1; exact absurd rfl h1
  · simp only []
    constructor
    · intro e; omega
    · intro e
      have e1 : a.st = 0 := by rw [← e]
      omega
theorem step_twice (l : Lim) (a : Alm) (v : Int) : stepTo l (stepTo l a v).1 v = ((stepTo l a v).1, 0) := by
  rcases step_ways l a v with h | ⟨h0, _, hl, h1, h⟩ | ⟨h0, _, hl, hh, h1, h⟩ | ⟨h0, _, hl, hh, h1, _, h⟩
  · rw [h]; exact h
  · rw [h]; simp only []
    unfold stepTo; rw [if_pos ⟨h0, by unfold Alm.Fine; dsimp only; omega⟩, if_pos hl, if_pos rfl]
  · rw [h]; simp only []
    unfold stepTo; rw [if_pos ⟨h0, by unfold Alm.Fine; dsimp only; omega⟩, if_neg (by rw [hl]; simp), if_pos hh, if_pos rfl]
  · rw [h]; simp only []
    unfold stepTo; rw [if_pos ⟨h0, by unfold Alm.Fine; dsimp only; omega⟩, if_neg (by rw [hl]; simp), if_neg (by rw [hh]; simp), if_neg (by simp)]
/-- is a value neither low nor high? -/
def Lim.inside (l : Lim) (v : Int) : Bool := (!l.ul || decide (l.lo < v)) && (!l.uh || decide (v < l.hi))
theorem inside_not {l : Lim} {v : Int} (h : l.inside v = true) : l.low v = false ∧ l.high v = false := by
  unfold Lim.inside at h
  unfold Lim.low Lim.high
  cases h1 : l.ul <;> cases h2 : l.uh <;> simp [h1, h2] at h ⊢ <;> omega
theorem inside_calm {l : Lim} {v : Int} {b : Bool} (h : l.inside v = true) : stepTo l ⟨0, b⟩ v = (⟨0, b⟩, 0) := by
  obtain ⟨h1, h2⟩ := inside_not h
  rcases step_ways l ⟨0, b⟩ v with h | ⟨_, _, x, _⟩ | ⟨_, _, _, x, _⟩ | ⟨_, _, _, _, x, _⟩
  · exact h
  · rw [h1] at x; cases x
  · rw [h2] at x; cases x
  · simp at x

/-- what holds of the two marks (AlarmApart). -/
def Marks (l : Lim) (lo hi : Bool) (a : Alm) : Prop := (lo = false → a.st = 1 ∧ l.ul = true) ∧ (hi = false → a.st = 2 ∧ l.uh = true)
theorem marks_next {l : Lim} {lo hi : Bool} {a r : Alm} {n v : Int} (ho : l.Ok) (h : Marks l lo hi a) (hs : stepTo l a v = (r, n)) :
    (n = 0 ∧ r = a ∧ Marks l (lo || decide (l.lo + l.hy < v)) (hi || decide (v < l.hi - l.hy)) a) ∨
    (n = 1 ∧ r = ⟨1, true⟩ ∧ (lo || decide (l.lo + l.hy < v)) = true ∧ Marks l false (hi || decide (v < l.hi - l.hy)) ⟨1, true⟩) ∨
    (n = 2 ∧ r = ⟨2, true⟩ ∧ (hi || decide (v < l.hi - l.hy)) = true ∧ Marks l (lo || decide (l.lo + l.hy < v)) false ⟨2, true⟩) ∨
    (n = 3 ∧ r = ⟨0, a.wt⟩ ∧ (lo || decide (l.lo + l.hy < v)) = true ∧ (hi || decide (v < l.hi - l.hy)) = true) := by
  obtain ⟨h1, h2⟩ := h
  have hlo : (lo || decide (l.lo + l.hy < v)) = false → lo = false ∧ ¬ l.lo + l.hy < v := by
    intro e; cases lo <;> simp at e ⊢; omega
  have hhi : (hi || decide (v < l.hi - l.hy)) = false → hi = false ∧ ¬ v < l.hi - l.hy := by
    intro e; cases hi <;> simp at e ⊢; omega
  have tr : ∀ b : Bool, b ≠ false → b = true := by intro b hb; cases b <;> simp_all
  have gap := ho.2.2.2.2
  rcases step_ways l a v with hw | ⟨_, _, hl, hn1, hw⟩ | ⟨_, _, hl, hh, hn2, hw⟩ | ⟨_, _, hl, hh, hb, _, hw⟩
  all_goals
    rw [hw] at hs
    injection hs with e1 e2
    subst e1 e2
  · left
    exact ⟨rfl, rfl, fun e => h1 (hlo e).1, fun e => h2 (hhi e).1⟩
  · right; left
    have hul : l.ul = true ∧ v ≤ l.lo := by unfold Lim.low at hl; simpa using hl
    refine ⟨rfl, rfl, tr _ (fun e => hn1 (h1 (hlo e).1).1), fun _ => ⟨rfl, hul.1⟩, fun e => ?_⟩
    have := gap hul.1 (h2 (hhi e).1).2
    have := (hhi e).2
    have := hul.2
    omega
  · right; right; left
    have huh : l.uh = true ∧ l.hi ≤ v := by unfold Lim.high at hh; simpa using hh
    refine ⟨rfl, rfl, tr _ (fun e => hn2 (h2 (hhi e).1).1), fun e => ?_, fun _ => ⟨rfl, huh.1⟩⟩
    have := gap (h1 (hlo e).1).2 huh.1
    have := (hlo e).2
    have := huh.2
    omega
  · right; right; right
    refine ⟨rfl, rfl, tr _ (fun e => ?_), tr _ (fun e => ?_)⟩
    · obtain ⟨s1, s2⟩ := h1 (hlo e).1
      rcases hb with ⟨_, hb⟩ | ⟨hb, _⟩
      · unfold Lim.back1 at hb
        rw [s2] at hb
        simp at hb
        exact (hlo e).2 hb
      · omega
    · obtain ⟨s1, s2⟩ := h2 (hhi e).1
      rcases hb with ⟨hb, _⟩ | ⟨_, hb⟩
      · omega
      · unfold Lim.back2 at hb
        rw [s2] at hb
        simp at hb
        exact (hhi e).2 hb

/-- what holds of a latched alarm: was it raised? -/
def Latched (raised : Bool) (a : Alm) : Prop := (raised = false → a = ⟨0, false⟩) ∧ (raised = true → a.wt = true ∧ a.st ≠ 0)
theorem latched_next {l : Lim} {b : Bool} {a r : Alm} {n v : Int} (hl : l.la = true) (h : Latched b a) (hs : stepTo l a v = (r, n)) :
    n ≠ 3 ∧ Latched (b || n != 0) r := by
  obtain ⟨h1, h2⟩ := h
  rcases step_ways l a v with hw | ⟨_, _, _, _, hw⟩ | ⟨_, _, _, _, _, hw⟩ | ⟨_, _, _, _, hb, hla, hw⟩
  all_goals
    rw [hw] at hs
    injection hs with e1 e2
    subst e1 e2
  · refine ⟨by omega, ?_⟩
    rw [show (b || (0 : Int) != 0) = b by cases b <;> rfl]
    exact ⟨h1, h2⟩
  · refine ⟨by omega, fun e => ?_, fun _ => ⟨rfl, by show (1 : Int) ≠ 0; omega⟩⟩
    cases b <;> simp at e
  · refine ⟨by omega, fun e => ?_, fun _ => ⟨rfl, by show (2 : Int) ≠ 0; omega⟩⟩
    cases b <;> simp at e
  · exfalso
    cases b with
    | false =>
      rw [h1 rfl] at hb
      simp at hb
    | true => exact hla ⟨hl, (h2 rfl).1⟩
end Go.Proofs.Ytgkhdoklbbedpaa
