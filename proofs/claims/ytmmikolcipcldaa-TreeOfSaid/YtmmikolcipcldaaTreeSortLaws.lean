/-
  What is proved here: what a tree holds that was filled with keys: each key with the place at which it was put last (chapter 15). Conditions: each theorem's own.
-/
import Derived.Test.YtmmikolcipcldaaTreeOpen
namespace Go.Proofs.Ytmmikolcipcldaa
open Go.RowKit Go.Deep

theorem insE_mem {k : Ky} {v : Int} : ∀ {es : List En}, Up es → ∀ e, e ∈ insE k v es ↔ e = (k, v) ∨ (e ∈ es ∧ e.1 ≠ k)
  | [], _, e => by simp [insE]
  | x :: es, h, e => by
    have h0 := List.pairwise_cons.1 h
    have ih := insE_mem (k := k) (v := v) h0.2 e
    unfold insE
    cases hx : bel x.1 k with
    | true =>
      have hne : x.1 ≠ k := fun e => by rw [e, bel_irrefl] at hx; cases hx
      rw [if_pos rfl, List.mem_cons, ih]
      constructor
      · rintro (rfl | h | h)
        · exact .inr ⟨by simp, hne⟩
        · exact .inl h
        · exact .inr ⟨List.mem_cons_of_mem _ h.1, h.2⟩
      · rintro (h | ⟨h, h2⟩)
        · exact .inr (.inl h)
        · rcases List.mem_cons.1 h with h | h
          · exact .inl h
          · exact .inr (.inr ⟨h, h2⟩)
    | false =>
      rw [if_neg (by simp)]
      by_cases e0 : x.1 = k
      · have ha : ∀ y ∈ es, y.1 ≠ k := fun y hy e => by have := h0.1 y hy; rw [e0, e, bel_irrefl] at this; cases this
        rw [if_pos e0, List.mem_cons]
        constructor
        · rintro (h | h)
          · exact .inl h
          · exact .inr ⟨List.mem_cons_of_mem _ h, ha e h⟩
        · rintro (h | ⟨h, h2⟩)
          · exact .inl h
          · rcases List.mem_cons.1 h with rfl | h
            · exact absurd e0 h2
            · exact .inr h
      · have hkx : bel k x.1 = true := bel_total hx e0
        have ha : ∀ y ∈ es, y.1 ≠ k := fun y hy e => by have := bel_trans hkx (h0.1 y hy); rw [e, bel_irrefl] at this; cases this
        rw [if_neg e0, List.mem_cons]
        constructor
        · rintro (h | h)
          · exact .inl h
          · refine .inr ⟨h, ?_⟩
            rcases List.mem_cons.1 h with rfl | h
            · exact e0
            · exact ha e h
        · rintro (h | ⟨h, h2⟩)
          · exact .inl h
          · exact .inr h
theorem up_one {es : List En} (h : Up es) {a b : En} (ha : a ∈ es) (hb : b ∈ es) (e : a.1 = b.1) : a = b := by
  induction es with
  | nil => cases ha
  | cons x es ih =>
    obtain ⟨h0, h1⟩ := List.pairwise_cons.1 h
    rcases List.mem_cons.1 ha with ea | ha' <;> rcases List.mem_cons.1 hb with eb | hb'
    · rw [ea, eb]
    · have := h0 b hb'; rw [← ea, e, bel_irrefl] at this; cases this
    · have := h0 a ha'; rw [← eb, e, bel_irrefl] at this; cases this
    · exact ih h1 ha' hb'
theorem up_val {es : List En} (h : Up es) {k : Ky} {u : Int} (hm : (k, u) ∈ es) : hasE k es = true ∧ valE k es = u := by
  refine ⟨by unfold hasE; rw [List.any_eq_true]; exact ⟨_, hm, by simp⟩, ?_⟩
  unfold valE
  cases hf : es.find? (fun e => decide (e.1 = k)) with
  | none => exact absurd (List.find?_eq_none.1 hf _ hm) (by simp)
  | some y =>
    have h1 := List.mem_of_find?_eq_some hf
    have h2 : y.1 = k := by simpa using List.find?_some hf
    have := up_one h h1 hm h2
    rw [this]
    rfl
theorem nodup_le {α : Type} [DecidableEq α] : ∀ {a b : List α}, a.Nodup → (∀ x ∈ a, x ∈ b) → a.length ≤ b.length
  | [], _, _, _ => Nat.zero_le _
  | x :: a, b, h, hs => by
    obtain ⟨h0, h1⟩ := List.nodup_cons.1 h
    have hx := hs x (by simp)
    have := nodup_le (b := b.erase x) h1 (fun y hy => (List.mem_erase_of_ne (fun e => h0 (by rw [← e]; exact hy))).2 (hs y (List.mem_cons_of_mem _ hy)))
    rw [List.length_erase_of_mem hx] at this
    have hp : 0 < b.length := List.length_pos_of_mem hx
    simp only [List.length_cons]
    omega
/-- a place behind which its key does not come again. -/
def Last (ks : List Ky) (n i : Nat) : Prop := i < n ∧ ∀ j, i < j → j < n → ks.getD j k0 ≠ ks.getD i k0
theorem filE_last {ks : List Ky} : ∀ n (e : En), e ∈ filE ks n ↔ ∃ i : Nat, e = (ks.getD i k0, (i : Int)) ∧ Last ks n i
  | 0, e => ⟨fun h => (by cases h), fun ⟨i, _, h, _⟩ => absurd h (by omega)⟩
  | n + 1, e => by
    show e ∈ insE _ _ _ ↔ _
    rw [insE_mem (filE_up ks n), filE_last n e]
    constructor
    · rintro (rfl | ⟨⟨i, rfl, h1, h2⟩, h3⟩)
      · exact ⟨n, rfl, Nat.lt_succ_self _, fun j h1 h2 => by omega⟩
      · refine ⟨i, rfl, by omega, fun j hj hj2 => ?_⟩
        by_cases e : j = n
        · rw [e]; exact fun h => h3 h.symm
        · exact h2 j hj (by omega)
    · rintro ⟨i, rfl, h1, h2⟩
      by_cases e : i = n
      · exact .inl (by rw [e])
      · exact .inr ⟨⟨i, rfl, by omega, fun j hj hj2 => h2 j hj (by omega)⟩, fun h => h2 n (by omega) (Nat.lt_succ_self _) h.symm⟩
theorem last_ex {ks : List Ky} (n : Nat) : ∀ m i, i < n → n - i ≤ m → ∃ j, i ≤ j ∧ Last ks n j ∧ ks.getD j k0 = ks.getD i k0
  | 0, i, h, hm => by omega
  | m + 1, i, h, hm => by
    by_cases hl : Last ks n i
    · exact ⟨i, Nat.le_refl _, hl, rfl⟩
    · have : ∃ j, i < j ∧ j < n ∧ ks.getD j k0 = ks.getD i k0 := Classical.byContradiction fun hc => hl ⟨h, fun j h1 h2 h3 => hc ⟨j, h1, h2, h3⟩⟩
      obtain ⟨j, h1, h2, h3⟩ := this
      obtain ⟨k, h4, h5, h6⟩ := last_ex n m j h2 (by omega)
      exact ⟨k, by omega, h5, h6.trans h3⟩
/-- what Get answers of a key that was put. -/
theorem filE_get {ks : List Ky} {n i : Nat} (h : i < n) : ∃ j : Nat, i ≤ j ∧ j < n ∧ ks.getD j k0 = ks.getD i k0 ∧ hasE (ks.getD i k0) (filE ks n) = true ∧ valE (ks.getD i k0) (filE ks n) = (j : Int) ∧ (j = i ↔ Last ks n i) := by
  obtain ⟨j, h1, h2, h3⟩ := last_ex (ks := ks) n (n - i) i h (Nat.le_refl _)
  have hm : (ks.getD i k0, (j : Int)) ∈ filE ks n := (filE_last n _).2 ⟨j, by rw [h3], h2⟩
  obtain ⟨h4, h5⟩ := up_val (filE_up ks n) hm
  refine ⟨j, h1, h2.1, h3, h4, h5, fun e => by rw [← e]; exact h2, fun hl => ?_⟩
  by_cases e : j = i
  · exact e
  · exact absurd h3 (hl.2 j (by omega) h2.1)
/-- the places that count. -/
def good (ks : List Ky) (n i : Nat) : Bool := decide (valE (ks.getD i k0) (filE ks n) = (i : Int)) && decide (ks.getD i k0 ≠ kGreat)
theorem good_iff {ks : List Ky} {n i : Nat} (h : i < n) : good ks n i = true ↔ Last ks n i ∧ ks.getD i k0 ≠ kGreat := by
  obtain ⟨j, h1, h2, h3, h4, h5, h6⟩ := filE_get (ks := ks) h
  unfold good
  rw [Bool.and_eq_true, decide_eq_true_eq, decide_eq_true_eq, h5]
  constructor
  · rintro ⟨a, b⟩
    exact ⟨h6.1 (by omega), b⟩
  · rintro ⟨a, b⟩
    exact ⟨by have := h6.2 a; omega, b⟩
/-- a range over all is as long as there are places that count. -/
theorem good_len {ks : List Ky} {n : Nat} (hok : ∀ i, i < n → KyOk (ks.getD i k0)) : (ranged kLeast kGreat (filE ks n)).length = ((List.range n).filter (good ks n)).length := by
  have hu := filE_up ks n
  have hu2 : Up (ranged kLeast kGreat (filE ks n)) := by rw [ranged_filter hu]; exact List.Pairwise.filter _ hu
  have hmem : ∀ e : En, e ∈ ranged kLeast kGreat (filE ks n) ↔ ∃ i : Nat, e = (ks.getD i k0, (i : Int)) ∧ i < n ∧ good ks n i = true := fun e => by
    rw [ranged_filter hu, List.mem_filter, filE_last]
    constructor
    · rintro ⟨⟨i, rfl, hl⟩, hb⟩
      refine ⟨i, rfl, hl.1, (good_iff hl.1).2 ⟨hl, fun hg => ?_⟩⟩
      simp only [hg, bel_irrefl] at hb
      simp at hb
    · rintro ⟨i, rfl, hi, hg⟩
      obtain ⟨hl, hne⟩ := (good_iff hi).1 hg
      refine ⟨⟨i, rfl, hl⟩, ?_⟩
      simp only
      rw [(hok i hi).least, bel_total (hok i hi).great (fun e => hne e.symm)]
      rfl
  have hnd : ((ranged kLeast kGreat (filE ks n)).map (fun e => e.2.toNat)).Nodup := by
    rw [List.Nodup, List.pairwise_map]
    refine List.Pairwise.imp_of_mem ?_ hu2
    intro a b ha hb hab e
    obtain ⟨i, rfl, _⟩ := (hmem a).1 ha
    obtain ⟨j, rfl, _⟩ := (hmem b).1 hb
    simp only [Int.toNat_natCast] at e
    subst e
    rw [bel_irrefl] at hab
    cases hab
  have h1 := nodup_le (b := (List.range n).filter (good ks n)) hnd (fun x hx => by
    obtain ⟨e, he, rfl⟩ := List.mem_map.1 hx
    obtain ⟨i, rfl, hi, hg⟩ := (hmem e).1 he
    simp only [Int.toNat_natCast]
    exact List.mem_filter.2 ⟨List.mem_range.2 hi, hg⟩)
  have h2 := nodup_le (a := (List.range n).filter (good ks n)) (b := (ranged kLeast kGreat (filE ks n)).map (fun e => e.2.toNat)) (List.Pairwise.filter _ List.nodup_range) (fun x hx => by
    obtain ⟨hi, hg⟩ := List.mem_filter.1 hx
    exact List.mem_map.2 ⟨_, (hmem _).2 ⟨x, rfl, List.mem_range.1 hi, hg⟩, by simp⟩)
  rw [List.length_map] at h1 h2
  omega
/-- the i-th of a range over all. -/
theorem got_at {ks : List Ky} {n i : Nat} (hi : i < (ranged kLeast kGreat (filE ks n)).length) : ∃ j : Nat, (ranged kLeast kGreat (filE ks n)).getD i e0 = (ks.getD j k0, (j : Int)) ∧ Last ks n j := by
  have hm : (ranged kLeast kGreat (filE ks n)).getD i e0 ∈ ranged kLeast kGreat (filE ks n) := by
    rw [List.getD_eq_getElem?_getD, List.getElem?_eq_getElem hi]
    exact List.getElem_mem hi
  rw [ranged_filter (filE_up ks n)] at hm ⊢
  exact (filE_last n _).1 (List.mem_filter.1 hm).1
theorem got_up {ks : List Ky} {n i : Nat} (hi : i + 1 < (ranged kLeast kGreat (filE ks n)).length) : bel ((ranged kLeast kGreat (filE ks n)).getD i e0).1 ((ranged kLeast kGreat (filE ks n)).getD (i + 1) e0).1 = true := by
  have hu2 : Up (ranged kLeast kGreat (filE ks n)) := by rw [ranged_filter (filE_up ks n)]; exact List.Pairwise.filter _ (filE_up ks n)
  have := List.pairwise_iff_getElem.1 hu2 i (i + 1) (by omega) hi (Nat.lt_succ_self _)
  rw [List.getD_eq_getElem?_getD, List.getD_eq_getElem?_getD, List.getElem?_eq_getElem (by omega), List.getElem?_eq_getElem hi]
  exact this
end Go.Proofs.Ytmmikolcipcldaa
