/-
  What is proved here: what a right tag is; a name without its last byte, and with one more (chapter 9). Conditions: each theorem's own.
-/
import Derived.Test.YthnhholpkomdhaaTagLaws
namespace Go.Proofs.Ythnhholpkomdhaa
open Go.RowKit Go.Deep

theorem err_zero {t : Tag} (h : t.err = 0) : nameB t.g = true ∧ (1 ≤ t.unit ∧ t.unit ≤ 247) ∧ (1 ≤ t.kind ∧ t.kind ≤ 4) ∧ (0 ≤ t.addr ∧ t.addr ≤ 65536 - t.width) ∧ (1 ≤ t.every ∧ t.every ≤ 1048576) := by
  unfold Tag.err Tag.errs at h
  cases h1 : nameB t.g with
  | false => rw [h1] at h; simp at h
  | true =>
    simp only [h1, decide_eq_true_eq, Bool.true_eq_false, if_false] at h
    split at h
    · simp at h
    · split at h
      · simp at h
      · split at h
        · simp at h
        · split at h
          · simp at h
          · exact ⟨rfl, by omega, by omega, by omega, by omega⟩
theorem err_addr {t : Tag} (h : t.err = 0) (a : Int) : Tag.err { t with addr := a } = if a < 0 ∨ 65536 - t.width < a then 21 else 0 := by
  obtain ⟨h1, h2, h3, h4, h5⟩ := err_zero h
  have hw : Tag.width { t with addr := a } = t.width := rfl
  unfold Tag.err Tag.errs at h ⊢
  rw [hw]
  dsimp only
  simp only [h1, decide_eq_true_eq, Bool.true_eq_false, if_false] at h ⊢
  rw [if_neg (by omega), if_neg (by omega)] at h ⊢
  rw [if_neg (by omega), if_neg (by omega)] at h
  by_cases ha : a < 0 ∨ 65536 - t.width < a
  · rw [if_pos ha, if_pos ha]
  · rw [if_neg ha, if_neg ha, if_neg (by omega)]
    exact h

theorem nameB_iff (s : ByteArray) : nameB s = true ↔ NameP s := decide_eq_true_iff
theorem byteAt_prefix (s : ByteArray) (m i : Nat) (hi : i < m) : byteAt (s.extract 0 m) i = byteAt s i := by
  unfold byteAt
  have e : (s.extract 0 m).data.toList = s.data.toList.take m := by simp
  rw [e]
  simp [List.getD_eq_getElem?_getD, hi]
theorem size_prefix (s : ByteArray) (m : Nat) (hm : m ≤ s.size) : (s.extract 0 m).size = m := by simp; omega
theorem byteAt_add (s : ByteArray) (c : UInt8) (i : Nat) : byteAt (s ++ ⟨#[c]⟩) i = if i < s.size then byteAt s i else if i = s.size then c.toNat else 0 := by
  unfold byteAt
  have e : (s ++ ⟨#[c]⟩ : ByteArray).data.toList = s.data.toList ++ [c] := by simp
  have hs : s.data.toList.length = s.size := by simp
  rw [e, List.getD_eq_getElem?_getD, List.getElem?_append, hs]
  by_cases h : i < s.size
  · rw [if_pos h, if_pos h, List.getD_eq_getElem?_getD]
  · rw [if_neg h, if_neg h]
    by_cases h2 : i = s.size
    · rw [if_pos h2, h2]; simp
    · rw [if_neg h2, List.getElem?_eq_none (by simp; omega)]; rfl
theorem size_add (s : ByteArray) (c : UInt8) : (s ++ ⟨#[c]⟩ : ByteArray).size = s.size + 1 := by rw [ByteArray.size_append]; rfl
theorem name_less {s : ByteArray} (h : nameB s = true) : nameB (s.extract 0 (s.size - 1)) = decide (1 < s.size) := by
  obtain ⟨h1, h2, h3, h4⟩ := (nameB_iff s).1 h
  unfold nameB
  rw [decide_eq_decide]
  unfold NameP
  rw [size_prefix s _ (by omega)]
  constructor
  · intro hh; omega
  · intro hh
    refine ⟨by omega, by omega, ?_, fun i hi => ?_⟩
    · rw [byteAt_prefix s _ 0 (by omega)]; exact h3
    · rw [byteAt_prefix s _ i hi]; exact h4 i (by omega)
theorem name_more {s : ByteArray} (h : nameB s = true) : nameB (s ++ ⟨#[45]⟩) = decide (s.size < 16) := by
  obtain ⟨h1, h2, h3, h4⟩ := (nameB_iff s).1 h
  unfold nameB
  rw [decide_eq_decide]
  unfold NameP
  rw [size_add]
  constructor
  · intro hh; omega
  · intro hh
    refine ⟨by omega, by omega, ?_, fun i hi => ?_⟩
    · rw [byteAt_add, if_pos (by omega)]; exact h3
    · rw [byteAt_add]
      by_cases hi2 : i < s.size
      · rw [if_pos hi2]; exact h4 i hi2
      · rw [if_neg hi2, if_pos (by omega)]; decide
theorem name_blank {s : ByteArray} : nameB (s ++ ⟨#[32]⟩) = false := by
  refine decide_eq_false fun hn => ?_
  have := hn.2.2.2 s.size (by rw [size_add]; omega)
  rw [byteAt_add, if_neg (by omega), if_pos rfl] at this
  revert this
  decide
end Go.Proofs.Ythnhholpkomdhaa
