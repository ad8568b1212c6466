/-
  What is proved here: what is scanned of any bytes, laid anew, is the bytes that went by; chunks one behind the other are scanned as they were laid (chapter 13). Conditions: bytes are bytes.
-/
import Derived.Test.YtjpbmapnagkonaaChkKit
namespace Go.Proofs.Ytjpbmapnagkonaa
open Go.RowKit Go.Deep Go.Joins Go.WideShapes

theorem get_laid {L : List Int} (hL : ∀ x ∈ L, U8 x) (h : (getTo L).2.2 = 0) : (getTo L).1.length ≤ 1024 ∧ (∀ x ∈ (getTo L).1, U8 x) ∧ putL (getTo L).1 = L.take (getTo L).2.1.toNat := by
  have hl := lenI_in hL
  have hlI : lenI L = L.getD 0 0 * 256 + L.getD 1 0 := rfl
  obtain ⟨a0, b0⟩ := getD_u8 hL 0
  obtain ⟨a1, b1⟩ := getD_u8 hL 1
  obtain ⟨a2, b2⟩ := getD_u8 hL 2
  obtain ⟨a3, b3⟩ := getD_u8 hL 3
  obtain ⟨a4, b4⟩ := getD_u8 hL 4
  obtain ⟨a5, b5⟩ := getD_u8 hL 5
  unfold getTo at h ⊢
  by_cases h1 : L.length < 6
  · rw [if_pos h1] at h; cases h
  rw [if_neg h1] at h ⊢
  by_cases h2 : 1024 < lenI L
  · rw [if_pos h2] at h; cases h
  rw [if_neg h2] at h ⊢
  by_cases h3 : (L.length : Int) < 6 + lenI L
  · rw [if_pos h3] at h; cases h
  rw [if_neg h3] at h ⊢
  by_cases h4 : ¬ sumB L = sumL (payL L)
  · rw [if_neg h4] at h; cases h
  have h4 := Decidable.not_not.1 h4
  rw [if_pos h4]
  have hpl := payL_len (L := L) (by omega) hl.1
  refine ⟨by show (payL L).length ≤ 1024; omega, payL_u8 hL, ?_⟩
  show putL (payL L) = L.take (6 + lenI L).toNat
  apply ext_getD_int
  · rw [putL_len, List.length_take]; omega
  intro j hj
  rw [putL_len] at hj
  have e2 : (L.take (6 + lenI L).toNat).getD j 0 = L.getD j 0 := by
    rw [List.getD_eq_getElem?_getD, List.getElem?_take, if_pos (by omega), List.getD_eq_getElem?_getD]
  rw [e2]
  by_cases hj6 : j < 6
  · have hs : sumL (payL L) = L.getD 2 0 * 16777216 + L.getD 3 0 * 65536 + L.getD 4 0 * 256 + L.getD 5 0 := h4.symm
    have : j = 0 ∨ j = 1 ∨ j = 2 ∨ j = 3 ∨ j = 4 ∨ j = 5 := by omega
    rcases this with rfl | rfl | rfl | rfl | rfl | rfl
    · show ((payL L).length : Int) / 256 = _; omega
    · show ((payL L).length : Int) % 256 = _; omega
    · show sumL (payL L) / 16777216 = _; omega
    · show sumL (payL L) / 65536 % 256 = _; omega
    · show sumL (payL L) / 256 % 256 = _; omega
    · show sumL (payL L) % 256 = _; omega
  · obtain ⟨i, rfl⟩ : ∃ i, j = 6 + i := ⟨j - 6, by omega⟩
    have e : (putL (payL L)).getD (6 + i) 0 = (payL L).getD i 0 := by
      unfold putL
      rw [List.getD_eq_getElem?_getD, List.getElem?_append_right (by simp [headL, tailL])]
      simp [headL, tailL, List.getD_eq_getElem?_getD]
    rw [e]
    unfold payL
    rw [List.getD_eq_getElem?_getD, List.getElem?_take, if_pos (by omega), List.getElem?_drop, List.getD_eq_getElem?_getD]

theorem take_add_drop (L : List Int) (a b : Nat) : L.take (a + b) = L.take a ++ (L.drop a).take b := by
  rw [List.take_add]
/-- chunks one behind the other. -/
def laidL (Ps : List (List Int)) : List Int := Ps.flatMap putL
theorem laidL_cons (P : List Int) (Ps : List (List Int)) : laidL (P :: Ps) = putL P ++ laidL Ps := rfl
theorem laidL_snoc (Ps : List (List Int)) (P : List Int) : laidL (Ps ++ [P]) = laidL Ps ++ putL P := by simp [laidL]
def Pay (P : List Int) : Prop := P.length ≤ 1024 ∧ ∀ x ∈ P, U8 x
theorem scanN_laid : ∀ (k : Nat) (L : List Int), L.length < k → (∀ x ∈ L, U8 x) →
    laidL (scanN k L).1 = L.take (scanN k L).2 ∧ (scanN k L).2 ≤ L.length ∧ (∀ P ∈ (scanN k L).1, Pay P) ∧ (getTo (L.drop (scanN k L).2)).2.2 ≠ 0
  | 0, _, h, _ => absurd h (by omega)
  | k + 1, L, h, hL => by
    unfold scanN
    by_cases h0 : (getTo L).2.2 = 0
    · obtain ⟨h6, hle, _⟩ := getTo_ok hL h0
      obtain ⟨g1, g2, g3⟩ := get_laid hL h0
      have hlen : (L.drop (getTo L).2.1.toNat).length = L.length - (getTo L).2.1.toNat := List.length_drop
      obtain ⟨i1, i2, i3, i4⟩ := scanN_laid k (L.drop (getTo L).2.1.toNat) (by omega) (drop_u8 hL _)
      rw [if_pos h0]
      dsimp only
      refine ⟨?_, by omega, fun P hP => ?_, ?_⟩
      · rw [laidL_cons, i1, g3, take_add_drop]
      · rcases List.mem_cons.1 hP with rfl | hP
        · exact ⟨g1, g2⟩
        · exact i3 P hP
      · rw [List.drop_drop] at i4
        exact i4
    · rw [if_neg h0]
      refine ⟨by simp [laidL], Nat.zero_le _, fun P hP => by simp at hP, by simpa using h0⟩
theorem scan_laid {L : List Int} (hL : ∀ x ∈ L, U8 x) : laidL (scanF L).1 = L.take (scanF L).2 ∧ (scanF L).2 ≤ L.length ∧ (∀ P ∈ (scanF L).1, Pay P) ∧ (getTo (L.drop (scanF L).2)).2.2 ≠ 0 :=
  scanN_laid (L.length + 1) L (by omega) hL
theorem laidL_u8 {Ps : List (List Int)} (h : ∀ P ∈ Ps, Pay P) : ∀ x ∈ laidL Ps, U8 x := by
  intro x hx
  obtain ⟨P, hP, hx⟩ := List.mem_flatMap.1 hx
  exact putL_u8 (h P hP).2 (by have := (h P hP).1; omega) x hx
/-- chunks one behind the other, and more behind them. -/
theorem scan_of_laid : ∀ (Ps : List (List Int)) (M : List Int), (∀ P ∈ Ps, Pay P) → (∀ x ∈ M, U8 x) → (getTo M).2.2 ≠ 0 → scanF (laidL Ps ++ M) = (Ps, (laidL Ps).length)
  | [], M, _, _, h0 => by
    show scanF M = _
    rw [scanF_stop h0]
    rfl
  | P :: Ps, M, hp, hM, h0 => by
    have hP := hp P (by simp)
    have hu : ∀ x ∈ laidL (P :: Ps) ++ M, U8 x := fun x hx => (List.mem_append.1 hx).elim (laidL_u8 hp x) (hM x)
    have hg := get_put (M := laidL Ps ++ M) hP.2 hP.1
    rw [laidL_cons, List.append_assoc] at *
    have h6 : (6 + (P.length : Int)).toNat = (putL P).length := by rw [putL_len]; omega
    have hgo := scanF_go hu (by rw [hg])
    rw [hg] at hgo
    dsimp only at hgo
    rw [h6, List.drop_left, scan_of_laid Ps M (fun Q hQ => hp Q (by simp [hQ])) hM h0] at hgo
    rw [hgo, List.length_append]
/-- a beginning of a chunk is none. -/
theorem get_cut {P : List Int} (hP : Pay P) {c : Nat} (hc : c < (putL P).length) : (getTo ((putL P).take c)).2.2 ≠ 0 := by
  have hl := putL_len P
  have hlen : ((putL P).take c).length = c := by rw [List.length_take]; omega
  unfold getTo
  by_cases h1 : c < 6
  · rw [if_pos (by omega)]; decide
  rw [if_neg (by omega)]
  have hI : lenI ((putL P).take c) = P.length := by
    unfold lenI
    have e0 : ((putL P).take c).getD 0 0 = (P.length : Int) / 256 := by
      rw [List.getD_eq_getElem?_getD, List.getElem?_take, if_pos (by omega)]; rfl
    have e1 : ((putL P).take c).getD 1 0 = (P.length : Int) % 256 := by
      rw [List.getD_eq_getElem?_getD, List.getElem?_take, if_pos (by omega)]; rfl
    rw [e0, e1]
    omega
  rw [hI, if_neg (by have := hP.1; omega), if_pos (by omega)]
  decide
theorem get_nil : (getTo []).2.2 ≠ 0 := by decide
theorem laidL_take_le : ∀ (Ps : List (List Int)), (∀ P ∈ Ps, Pay P) → (laidL Ps).length ≤ 1030 * Ps.length
  | [], _ => by simp [laidL]
  | P :: Ps, h => by
    have := laidL_take_le Ps (fun Q hQ => h Q (by simp [hQ]))
    have hP := (h P (by simp)).1
    rw [laidL_cons, List.length_append, putL_len, List.length_cons]
    omega
end Go.Proofs.Ytjpbmapnagkonaa
