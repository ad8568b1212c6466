/-
  What is proved here: plain facts on what is told of many points (chapter 7). Conditions: none beyond each theorem's own.
-/
import Derived.Test.YtjidfcogcgaclaaBandRun
namespace Go.Proofs.Ytjidfcogcgaclaa

/-- what is told of a beginning is a beginning of what is told. -/
theorem out_mono (b : Band) (L : List Point) : ∀ j k, ∃ M, outTo b L (k + j) = outTo b L k ++ M
  | 0, k => ⟨[], by simp⟩
  | j + 1, k => by
    obtain ⟨M, hM⟩ := out_mono b L j k
    cases h : told b (heldTo b L (k + j)) (L.getD (k + j) p0) with
    | true => exact ⟨M ++ [L.getD (k + j) p0], by rw [← Nat.add_assoc, out_yes h, hM, List.append_assoc]⟩
    | false => exact ⟨M, by rw [← Nat.add_assoc, out_no h, hM]⟩
theorem out_begin (b : Band) (L : List Point) {k n : Nat} (h : k ≤ n) : ∃ M, outTo b L n = outTo b L k ++ M := by
  obtain ⟨M, hM⟩ := out_mono b L (n - k) k
  exact ⟨M, by rw [← hM]; congr 1; omega⟩
theorem out_le (b : Band) (L : List Point) {k n : Nat} (h : k ≤ n) : (outTo b L k).length ≤ (outTo b L n).length := by
  obtain ⟨M, hM⟩ := out_begin b L h
  rw [hM, List.length_append]; omega
theorem out_getD (b : Band) (L : List Point) {k n j : Nat} (h : k ≤ n) (hj : j < (outTo b L k).length) : (outTo b L n).getD j p0 = (outTo b L k).getD j p0 := by
  obtain ⟨M, hM⟩ := out_begin b L h
  rw [hM, List.getD_eq_getElem?_getD, List.getElem?_append_left hj, List.getD_eq_getElem?_getD]
/-- only the points up to there matter. -/
theorem held_take (b : Band) (L : List Point) (n : Nat) : ∀ k, k ≤ n → heldTo b (L.take n) k = heldTo b L k
  | 0, _ => rfl
  | k + 1, h => by
    have e : (L.take n).getD k p0 = L.getD k p0 := by
      simp only [List.getD_eq_getElem?_getD, List.getElem?_take]; rw [if_pos (by omega)]
    show next b (heldTo b (L.take n) k) ((L.take n).getD k p0) = next b (heldTo b L k) (L.getD k p0)
    rw [held_take b L n k (by omega), e]
theorem out_take (b : Band) (L : List Point) (n : Nat) : ∀ k, k ≤ n → outTo b (L.take n) k = outTo b L k
  | 0, _ => rfl
  | k + 1, h => by
    have e : (L.take n).getD k p0 = L.getD k p0 := by
      simp only [List.getD_eq_getElem?_getD, List.getElem?_take]; rw [if_pos (by omega)]
    show (if told b (heldTo b (L.take n) k) ((L.take n).getD k p0) = true then outTo b (L.take n) k ++ [(L.take n).getD k p0] else outTo b (L.take n) k) = _
    rw [held_take b L n k (by omega), out_take b L n k (by omega), e]
    rfl
/-- what is held is what was told last. -/
theorem held_last (b : Band) (L : List Point) : ∀ k, 0 < k → (heldTo b L k).has = true ∧ 0 < (outTo b L k).length ∧ (outTo b L k).getD ((outTo b L k).length - 1) p0 = ⟨(heldTo b L k).v, (heldTo b L k).t⟩
  | 0, h => absurd h (by omega)
  | k + 1, _ => by
    cases ht : told b (heldTo b L k) (L.getD k p0) with
    | true =>
      have e : heldTo b L (k + 1) = ⟨true, (L.getD k p0).v, (L.getD k p0).t⟩ := if_pos ht
      rw [out_yes ht, e]
      refine ⟨rfl, by simp, ?_⟩
      simp [List.getD_eq_getElem?_getD]
    | false =>
      have e : heldTo b L (k + 1) = heldTo b L k := if_neg (by rw [ht]; simp)
      rw [out_no ht, e]
      rcases Nat.eq_zero_or_pos k with rfl | hk
      · simp [told, heldTo] at ht
      · exact held_last b L k hk
/-- a point is held behind it, or near what is held. -/
theorem near_held (b : Band) (L : List Point) (k : Nat) : ¬ max b.dead 0 < dist (L.getD k p0).v (heldTo b L (k + 1)).v := by
  cases ht : told b (heldTo b L k) (L.getD k p0) with
  | true =>
    have e : heldTo b L (k + 1) = ⟨true, (L.getD k p0).v, (L.getD k p0).t⟩ := if_pos ht
    rw [e]; simp [dist]; omega
  | false =>
    have e : heldTo b L (k + 1) = heldTo b L k := if_neg (by rw [ht]; simp)
    rw [e]
    generalize L.getD k p0 = x at ht ⊢
    intro h
    simp [told] at ht
    omega
def Rising (L : List Point) (k : Nat) : Prop := ∀ j, j + 1 < k → (L.getD j p0).t ≤ (L.getD (j + 1) p0).t
theorem rising_le {L : List Point} : ∀ {k j : Nat}, Rising L (k + 1) → j ≤ k → (L.getD j p0).t ≤ (L.getD k p0).t
  | 0, j, _, hj => by obtain rfl : j = 0 := by omega
                      exact Int.le_refl _
  | k + 1, j, h, hj => by
    rcases Nat.eq_or_lt_of_le hj with rfl | hlt
    · exact Int.le_refl _
    · exact Int.le_trans (rising_le (k := k) (fun i hi => h i (by omega)) (by omega)) (h k (by omega))
theorem held_of (b : Band) (L : List Point) : ∀ k, 0 < k → ∃ j, j < k ∧ (heldTo b L k).t = (L.getD j p0).t
  | 0, h => absurd h (by omega)
  | k + 1, _ => by
    cases ht : told b (heldTo b L k) (L.getD k p0) with
    | true =>
      have e : heldTo b L (k + 1) = ⟨true, (L.getD k p0).v, (L.getD k p0).t⟩ := if_pos ht
      exact ⟨k, by omega, by rw [e]⟩
    | false =>
      have e : heldTo b L (k + 1) = heldTo b L k := if_neg (by rw [ht]; simp)
      rcases Nat.eq_zero_or_pos k with rfl | hk
      · simp [told, heldTo] at ht
      · obtain ⟨j, hj, hh⟩ := held_of b L k hk
        exact ⟨j, by omega, by rw [e, hh]⟩
theorem soon_held (b : Band) (L : List Point) (k : Nat) (hr : Rising L (k + 1)) (hq : 0 < b.quiet) : ¬ max (b.quiet - 1) 0 < dist (L.getD k p0).t (heldTo b L (k + 1)).t := by
  cases ht : told b (heldTo b L k) (L.getD k p0) with
  | true =>
    have e : heldTo b L (k + 1) = ⟨true, (L.getD k p0).v, (L.getD k p0).t⟩ := if_pos ht
    rw [e]; simp [dist]; omega
  | false =>
    have e : heldTo b L (k + 1) = heldTo b L k := if_neg (by rw [ht]; simp)
    rw [e]
    rcases Nat.eq_zero_or_pos k with rfl | hk
    · simp [told, heldTo] at ht
    · obtain ⟨j, hj, hh⟩ := held_of b L k hk
      have hle := rising_le hr (show j ≤ k by omega)
      rw [← hh] at hle
      generalize L.getD k p0 = x at ht hle ⊢
      intro h
      simp [told, hq] at ht
      have := ht.2 hle
      omega
theorem told_count (b : Band) (L : List Point) (k : Nat) : ((outTo b L (k + 1)).length = (outTo b L k).length ∨ (outTo b L (k + 1)).length = (outTo b L k).length + 1 ∧ (outTo b L (k + 1)).getD (outTo b L k).length p0 = L.getD k p0) := by
  cases ht : told b (heldTo b L k) (L.getD k p0) with
  | true => right; rw [out_yes ht]; simp [List.getD_eq_getElem?_getD]
  | false => left; rw [out_no ht]
/-- what is told one behind the other is far apart, where there is no Quiet. -/
theorem far_out (b : Band) (hq : b.quiet = 0) (L : List Point) : ∀ k i, i + 1 < (outTo b L k).length → max b.dead 0 < dist ((outTo b L k).getD (i + 1) p0).v ((outTo b L k).getD i p0).v
  | 0, i, h => by simp [outTo] at h
  | k + 1, i, h => by
    have ih := far_out b hq L k i
    cases ht : told b (heldTo b L k) (L.getD k p0) with
    | false => rw [out_no ht] at h ⊢; exact ih h
    | true =>
      rw [out_yes ht] at h ⊢
      rw [List.length_append, List.length_singleton] at h
      by_cases hlt : i + 1 < (outTo b L k).length
      · have e1 : (outTo b L k ++ [L.getD k p0]).getD (i + 1) p0 = (outTo b L k).getD (i + 1) p0 := by rw [List.getD_eq_getElem?_getD, List.getElem?_append_left hlt, List.getD_eq_getElem?_getD]
        have e2 : (outTo b L k ++ [L.getD k p0]).getD i p0 = (outTo b L k).getD i p0 := by rw [List.getD_eq_getElem?_getD, List.getElem?_append_left (by omega), List.getD_eq_getElem?_getD]
        rw [e1, e2]; exact ih hlt
      · have e1 : (outTo b L k ++ [L.getD k p0]).getD (i + 1) p0 = L.getD k p0 := by
          rw [List.getD_eq_getElem?_getD, List.getElem?_append_right (by omega), show i + 1 - (outTo b L k).length = 0 by omega]; rfl
        have e2 : (outTo b L k ++ [L.getD k p0]).getD i p0 = (outTo b L k).getD i p0 := by rw [List.getD_eq_getElem?_getD, List.getElem?_append_left (by omega), List.getD_eq_getElem?_getD]
        rcases Nat.eq_zero_or_pos k with rfl | hk
        · simp [outTo] at h
        · obtain ⟨h1, h2, h3⟩ := held_last b L k hk
          rw [e1, e2, show i = (outTo b L k).length - 1 by omega, h3]
          generalize L.getD k p0 = x at ht ⊢
          simp [told, hq, h1] at ht
          exact ht
theorem getD_take (L : List Point) (k i : Nat) (h : i < k) : (L.take k).getD i p0 = L.getD i p0 := by
  simp only [List.getD_eq_getElem?_getD, List.getElem?_take]; rw [if_pos (by omega)]
/-- points that are far apart are told all. -/
theorem out_all (b : Band) (O : List Point) (h : ∀ i, i + 1 < O.length → max b.dead 0 < dist (O.getD (i + 1) p0).v (O.getD i p0).v) : ∀ k, k ≤ O.length → outTo b O k = O.take k
  | 0, _ => rfl
  | k + 1, hk => by
    have ih := out_all b O h k (by omega)
    have ht : told b (heldTo b O k) (O.getD k p0) = true := by
      rcases Nat.eq_zero_or_pos k with rfl | hp
      · simp [told, heldTo]
      · obtain ⟨h1, h2, h3⟩ := held_last b O k hp
        rw [ih, List.length_take, Nat.min_eq_left (by omega), getD_take O k (k - 1) (by omega)] at h3
        have := h (k - 1) (by omega)
        rw [show k - 1 + 1 = k by omega, h3] at this
        dsimp only at this
        simp only [told, decide_eq_true this, Bool.or_true, Bool.true_or]
    rw [out_yes ht, ih]
    rw [List.take_succ_eq_append_getElem (by omega), List.getD_eq_getElem?_getD, List.getElem?_eq_getElem (by omega)]; rfl
theorem out_again (b : Band) (hq : b.quiet = 0) (L : List Point) (k : Nat) : outTo b (outTo b L k) (outTo b L k).length = outTo b L k := by
  rw [out_all b _ (far_out b hq L k) _ (Nat.le_refl _), List.take_length]
end Go.Proofs.Ytjidfcogcgaclaa
