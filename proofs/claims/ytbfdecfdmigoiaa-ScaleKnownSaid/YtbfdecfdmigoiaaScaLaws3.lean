/-
  What is proved here: words and numbers, there and back (plain; chapter 6). Conditions: each theorem's own.
-/
import Derived.Test.YtbfdecfdmigoiaaScaWordsAll
namespace Go.Proofs.Ytbfdecfdmigoiaa
open Go.RowKit Go.Deep

theorem list_u16 {s : Sca} {raw : Int} (hf : ¬ s.far raw) : ∀ x ∈ s.list raw, U16 x := by
  obtain ⟨wide, signed, swap, mul, div, add⟩ := s
  cases wide <;> cases swap <;> cases signed <;> simp [Sca.far, Sca.low, Sca.many] at hf <;> intro x hx <;> simp [Sca.list, Sca.lift, Sca.many] at hx <;> unfold U16 <;> first | (rcases hx with rfl | rfl <;> (split <;> omega)) | (subst hx; split <;> omega) | (rcases hx with rfl | rfl <;> omega) | (subst hx; omega)
theorem wordsTo_u16 (s : Sca) (raw : Int) : ∀ x ∈ (wordsTo s raw).1, U16 x := by
  unfold wordsTo
  by_cases ho : s.Ok
  · rw [if_neg (by simp [ho])]
    by_cases hf : s.far raw
    · rw [if_pos hf]; intro x hx; cases hx
    · rw [if_neg hf]; exact list_u16 hf
  · rw [if_pos ho]; intro x hx; cases hx
theorem words_len (s : Sca) (raw : Int) : (wordsTo s raw).1.length ≤ 2 := by
  unfold wordsTo
  by_cases ho : s.Ok
  · rw [if_neg (by simp [ho])]
    by_cases hf : s.far raw
    · rw [if_pos hf]; simp
    · rw [if_neg hf]; unfold Sca.list; split <;> (try split) <;> simp
  · rw [if_pos ho]; simp
/-- a number's words are that number. -/
theorem raw_of_words {s : Sca} {raw : Int} {L : List Int} (h : wordsTo s raw = (L, 0)) : rawTo s L = (raw, 0) := by
  unfold wordsTo at h
  by_cases ho : s.Ok
  rotate_left
  · rw [if_pos ho] at h; injection h with h1 h2; exact absurd h2 (by decide)
  rw [if_neg (by simp [ho])] at h
  by_cases hf : s.far raw
  · rw [if_pos hf] at h; injection h with h1 h2; exact absurd h2 (by decide)
  rw [if_neg hf] at h
  injection h with h1 _
  subst h1
  obtain ⟨wide, signed, swap, mul, div, add⟩ := s
  have hlen : ((Sca.mk wide signed swap mul div add).list raw).length = (Sca.mk wide signed swap mul div add).need := by
    cases wide <;> cases swap <;> rfl
  rw [rawTo_right ho hlen]
  refine Prod.ext ?_ rfl
  cases wide <;> cases swap <;> cases signed <;> simp [Sca.far, Sca.low, Sca.many] at hf <;> simp [Sca.list, Sca.lift, Sca.many, rawN] <;> first | omega | (split <;> (try split) <;> omega)
/-- the words of the number that words are, are they. -/
theorem words_of_raw {s : Sca} {v : Int} {L : List Int} (hL : ∀ x ∈ L, U16 x) (h : rawTo s L = (v, 0)) : wordsTo s v = (L, 0) := by
  have ho : s.Ok := by
    by_cases ho : s.Ok
    · exact ho
    · rw [rawTo_bad ho] at h; injection h with _ h2; exact absurd h2 (by decide)
  have hn : L.length = s.need := by
    by_cases hn : L.length = s.need
    · exact hn
    · rw [rawTo_len ho hn] at h; injection h with _ h2; exact absurd h2 (by decide)
  rw [rawTo_right ho hn] at h
  injection h with h1 _
  unfold wordsTo
  rw [if_neg (by simp [ho])]
  obtain ⟨wide, signed, swap, mul, div, add⟩ := s
  cases wide
  · obtain ⟨a, rfl⟩ : ∃ a, L = [a] := by
      match L, hn with
      | [a], _ => exact ⟨a, rfl⟩
    have ha := hL a (by simp)
    unfold U16 at ha
    cases swap <;> cases signed <;> simp [rawN, Sca.many] at h1
    · subst h1
      rw [if_neg (by simp [Sca.far, Sca.low, Sca.many]; omega)]
      simp [Sca.list, Sca.lift, Sca.many]
      omega
    · have hf : ¬ (Sca.mk false true false mul div add).far v := by simp [Sca.far, Sca.low, Sca.many]; split at h1 <;> omega
      rw [if_neg hf]
      simp [Sca.list, Sca.lift, Sca.many]
      split at h1 <;> split <;> omega
    · exact absurd (ho.2.2.2.2 rfl) (by simp)
    · exact absurd (ho.2.2.2.2 rfl) (by simp)
  · obtain ⟨a, b, rfl⟩ : ∃ a b, L = [a, b] := by
      match L, hn with
      | [a, b], _ => exact ⟨a, b, rfl⟩
    have ha := hL a (by simp)
    have hb := hL b (by simp)
    unfold U16 at ha hb
    cases swap <;> cases signed <;> simp [rawN, Sca.many] at h1
    · subst h1
      rw [if_neg (by simp [Sca.far, Sca.low, Sca.many]; omega)]
      simp [Sca.list, Sca.lift, Sca.many]
      first | omega | (split <;> omega)
    · have hf : ¬ (Sca.mk true true false mul div add).far v := by simp [Sca.far, Sca.low, Sca.many]; split at h1 <;> omega
      rw [if_neg hf]
      simp [Sca.list, Sca.lift, Sca.many]
      split at h1 <;> split <;> omega
    · subst h1
      rw [if_neg (by simp [Sca.far, Sca.low, Sca.many]; omega)]
      simp [Sca.list, Sca.lift, Sca.many]
      first | omega | (split <;> omega)
    · have hf : ¬ (Sca.mk true true true mul div add).far v := by simp [Sca.far, Sca.low, Sca.many]; split at h1 <;> omega
      rw [if_neg hf]
      simp [Sca.list, Sca.lift, Sca.many]
      split at h1 <;> split <;> omega
theorem raw_ways {s : Sca} {L : List Int} {v m : Int} (h : rawTo s L = (v, m)) : (v = 0 ∧ m = 25) ∨ (v = 0 ∧ m = 22) ∨ m = 0 := by
  by_cases ho : s.Ok
  · by_cases hn : L.length = s.need
    · rw [rawTo_right ho hn] at h; injection h with _ h2; exact .inr (.inr h2.symm)
    · rw [rawTo_len ho hn] at h; injection h with h1 h2; exact .inr (.inl ⟨h1.symm, h2.symm⟩)
  · rw [rawTo_bad ho] at h; injection h with h1 h2; exact .inl ⟨h1.symm, h2.symm⟩
theorem words_ways {s : Sca} {raw n : Int} {L : List Int} (h : wordsTo s raw = (L, n)) : n = 25 ∨ n = 3 ∨ n = 0 := by
  unfold wordsTo at h
  by_cases ho : s.Ok
  · rw [if_neg (by simp [ho])] at h
    by_cases hf : s.far raw
    · rw [if_pos hf] at h; injection h with _ h2; exact .inr (.inl h2.symm)
    · rw [if_neg hf] at h; injection h with _ h2; exact .inr (.inr h2.symm)
  · rw [if_pos ho] at h; injection h with _ h2; exact .inl h2.symm
end Go.Proofs.Ytbfdecfdmigoiaa
