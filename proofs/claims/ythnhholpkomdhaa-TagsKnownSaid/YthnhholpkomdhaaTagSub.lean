/-
  What is proved here: parts of a table, and of a list whose tag at a place is wrong first (chapter 9). Conditions: each theorem's own.
-/
import Derived.Test.YthnhholpkomdhaaTagOrd
import Derived.Test.YthnhholpkomdhaaTagKnown
namespace Go.Proofs.Ythnhholpkomdhaa
open Go.RowKit Go.Deep

theorem getD_take {L : List Tag} {m i : Nat} (h : i < m) : (L.take m).getD i t0 = L.getD i t0 := by simp [List.getD_eq_getElem?_getD, h]
theorem tagAt_take {L : List Tag} {m i : Nat} (h : i < m) : tagAt (L.take m) i = tagAt L i := by
  unfold tagAt
  rw [getD_take h, getD_take (show i - 1 < m by omega)]
theorem all_first {L : List Tag} {e : Int} {k : Nat} (h : allOf L = (e, k)) (he : e ≠ 0) (h64 : ¬ 64 < L.length) : k < L.length ∧ tagAt L k = e ∧ ∀ j, j < k → tagAt L j = 0 := by
  unfold allOf at h
  rw [if_neg h64] at h
  cases hf : (List.range L.length).find? (fun i => decide (tagAt L i ≠ 0)) with
  | none =>
    rw [hf] at h
    simp only [Prod.mk.injEq] at h
    exact absurd h.1.symm he
  | some i =>
    rw [hf] at h
    simp only [Prod.mk.injEq] at h
    obtain ⟨h1, rfl⟩ := h
    have hlt := List.mem_range.1 (List.mem_of_find?_eq_some hf)
    refine ⟨hlt, h1, fun j hj => ?_⟩
    rw [List.find?_range_eq_some] at hf
    have := hf.2.2 j hj
    simpa using this
theorem all_ahead {L : List Tag} {e : Int} {k : Nat} (h : allOf L = (e, k)) (he : e ≠ 0) (h64 : ¬ 64 < L.length) : allOf (L.take k) = (0, 0) := by
  obtain ⟨h1, h2, h3⟩ := all_first h he h64
  have hl : (L.take k).length = k := by rw [List.length_take]; omega
  exact allOf_none (by omega) (fun j hj => by rw [tagAt_take (by omega)]; exact h3 j (by omega))
theorem all_upto {L : List Tag} {e : Int} {k : Nat} (h : allOf L = (e, k)) (he : e ≠ 0) (h64 : ¬ 64 < L.length) : allOf (L.take (k + 1)) = (e, k) := by
  obtain ⟨h1, h2, h3⟩ := all_first h he h64
  have hl : (L.take (k + 1)).length = k + 1 := by rw [List.length_take]; omega
  exact allOf_at (by omega) (by omega) (fun j hj => by rw [tagAt_take (by omega)]; exact h3 j hj) (by rw [tagAt_take (by omega)]; exact h2) he
/-- some of a table's tags, in order, from among the first ones. -/
def Some_ (L O : List Tag) (k : Nat) : Prop := Table O ∧ O.length ≤ k ∧ ∀ i, i < O.length → ∃ j, j < k ∧ O.getD i t0 = L.getD j t0
theorem Some_.zero (L : List Tag) : Some_ L [] 0 := ⟨fun j hj => absurd hj (by simp), Nat.le_refl _, fun i hi => absurd hi (by simp)⟩
theorem Some_.skip {L O : List Tag} {k : Nat} (h : Some_ L O k) : Some_ L O (k + 1) :=
  ⟨h.1, Nat.le_succ_of_le h.2.1, fun i hi => by obtain ⟨j, hj, e⟩ := h.2.2 i hi; exact ⟨j, by omega, e⟩⟩
theorem getD_app {O : List Tag} {x : Tag} {i : Nat} (h : i < O.length) : (O ++ [x]).getD i t0 = O.getD i t0 := by
  simp only [List.getD_eq_getElem?_getD, List.getElem?_append_left h]
theorem getD_end {O : List Tag} {x : Tag} : (O ++ [x]).getD O.length t0 = x := by simp [List.getD_eq_getElem?_getD]
theorem Some_.more {L O : List Tag} {k : Nat} (h : Some_ L O k) (hT : Table L) (hk : k < L.length) : Some_ L (O ++ [L.getD k t0]) (k + 1) := by
  refine ⟨fun i hi => ?_, by rw [List.length_append]; exact Nat.succ_le_succ h.2.1, fun i hi => ?_⟩
  · rw [List.length_append, List.length_singleton] at hi
    by_cases e : i = O.length
    · subst e
      refine tagAt_fine (by rw [getD_end]; exact hT.err hk) (fun h0 => ?_) ?_
      · unfold lastOf
        rw [if_neg (by omega), getD_end, getD_app (by omega)]
        obtain ⟨j, hj, e⟩ := h.2.2 (O.length - 1) (by omega)
        rw [e]
        have := hT.apart hj hk
        cases h2 : sEq (L.getD k t0).g (L.getD j t0).g with
        | false => rfl
        | true => rw [(sEq_iff _ _).2 ((sEq_iff _ _).1 h2).symm] at this; cases this
      · by_cases h0 : O.length = 0
        · rw [h0, show lastOf (O ++ [L.getD k t0]) 0 = ByteArray.empty from rfl, sLt_empty]
        · unfold lastOf
          rw [if_neg h0, getD_end, getD_app (by omega)]
          obtain ⟨j, hj, e⟩ := h.2.2 (O.length - 1) (by omega)
          rw [e]
          have h1 := hT.rise (j := j) (k - j - 1) (by omega)
          rw [show j + (k - j - 1) + 1 = k by omega] at h1
          cases h2 : sLt (L.getD k t0).g (L.getD j t0).g with
          | false => rfl
          | true =>
            have := less_trans _ _ _ h1 h2
            rw [less_irrefl] at this
            cases this
    · have hlt : i < O.length := by omega
      have := h.1 i hlt
      unfold tagAt at this ⊢
      rw [getD_app hlt, getD_app (show i - 1 < O.length by omega)]
      exact this
  · rw [List.length_append, List.length_singleton] at hi
    by_cases e : i = O.length
    · subst e
      exact ⟨k, by omega, getD_end⟩
    · rw [getD_app (by omega)]
      obtain ⟨j, hj, e⟩ := h.2.2 i (by omega)
      exact ⟨j, by omega, e⟩
theorem Some_.all {L O : List Tag} {k : Nat} (h : Some_ L O k) (hk : k ≤ 64) : allOf O = (0, 0) := allOf_none (by have := h.2.1; omega) h.1
theorem Some_.fit {L O : List Tag} {k : Nat} (h : Some_ L O k) (hk : k ≤ L.length) (hN : NamesFit L) : NamesFit O := fun i hi => by
  obtain ⟨j, hj, e⟩ := h.2.2 i hi
  rw [e]
  exact hN j (by omega)
theorem take_fit {L : List Tag} (hN : NamesFit L) (m : Nat) : NamesFit (L.take m) := fun i hi => by
  rw [List.length_take] at hi
  rw [getD_take (by omega)]
  exact hN i (by omega)
theorem take_at {w : World} {A : Option Addr} {L : List Tag} (h : TagsAt w A L) (m : Nat) : TagsAt w A (L.take m) := fun hp => by
  rw [List.length_take] at hp
  obtain ⟨b, off, e, hlt, hc⟩ := h (by omega)
  refine ⟨b, off, e, hlt, fun i hi => ?_⟩
  rw [List.length_take] at hi
  rw [getD_take (by omega)]
  exact hc i (by omega)
/-- tags' cells. -/
def tcells (L : List Tag) : List Value := (rowOf L).toList
theorem tcells_app (O : List Tag) (x : Tag) : tcells (O ++ [x]) = tcells O ++ x.cells.toList := by simp [tcells, rowOf]
theorem tcells_one (x : Tag) : (rowOf [x]).toList = x.cells.toList := by simp [rowOf]
theorem tags_of_own {w : World} {base : Nat} {v : Value} {O : List Tag} (h : w.ownsRow base 29 19 v O.length (tcells O)) : ∃ A c, v = .slice A O.length c ∧ TagsAt w A O := by
  rcases h.2 with ⟨hv, h0⟩ | ⟨g, cap, cur, hv, hb, hh, hn, hm, hs, ht⟩
  · rw [h0] at h
    refine ⟨none, 0, by rw [h0]; exact hv, fun hp => absurd hp (by omega)⟩
  · refine ⟨some ⟨g, 0, none⟩, cap, hv, fun hp => ⟨g, 0, rfl, ?_, fun i hi j u hu => ?_⟩⟩
    · exact (h.lt g (by rw [hv]; rfl)).2
    · have hj : j < 19 := by have := (List.getElem?_eq_some_iff.1 hu).1; rwa [cells_len] at this
      have hc := h.cells (g := g) (by rw [hv]; rfl) (i * 19 + j) u (by unfold tcells; rw [Array.getElem?_toList, rowOf_at O i j hi hj, hu])
      rw [Nat.zero_add]
      simpa [Addr.add_mid] using hc
end Go.Proofs.Ythnhholpkomdhaa
