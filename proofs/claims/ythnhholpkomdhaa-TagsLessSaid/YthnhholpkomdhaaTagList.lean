/-
  What is proved here: a list of tags that comes in (chapter 9). Conditions: each theorem's own.
-/
import Derived.Test.YthnhholpkomdhaaTagOpen
import Derived.Test.YthnhholpkomdhaaTagLent
namespace Go.Proofs.Ythnhholpkomdhaa
open Go.ChangeShapes Go.WideShapes Go.ChangeAt Go.RowKit Go.Deep Go.Joins

theorem tagB : Try.prog.bytesOf 29 = 128 := by kernel_rfl
theorem open_tags {H : Type} {enc : TypeId × Value → H} {W : World} {b0 : Nat} {v : Value} {d : DataW H} {p : List MemPlace}
    (hv : Value.okWide Try.prog W .any b0 35 v) (h : DataW.Trod enc Try.prog W 0 (fun _ => true) true 35 v d p)
    {ts : List TypeId} {ds : List (DataW H)} (hsz : (DataW.weightsEach Try.prog ts ds).all (· ≤ reachBytes) = true) {j : Nat} (hj : ts[j]? = some 35) (hd : ds[j]? = some d) :
    ∃ (A : Option Addr) (cap : Nat) (L : List Tag), v = .slice A L.length cap ∧ L.length ≤ cap ∧ cap * 128 ≤ 140737488351232 ∧ TagsAt W A L ∧ ∀ i, i < L.length → (L.getD i t0).Fit := by
  obtain ⟨a0, len, cap, rfl⟩ := okWide_slice Try.underlying35 hv
  obtain ⟨fuel, hf⟩ := h
  rcases open_slice Try.underlying35 hf with ⟨hcs, _⟩ | ⟨a, l0, c0, m, n, D, Pl, hcs, _, hl, _, hm, hx, hi⟩
  · simp only [Value.cells, List.cons.injEq, and_true, Value.slice.injEq] at hcs
    obtain ⟨rfl, rfl, rfl⟩ := hcs
    exact ⟨none, 0, [], rfl, Nat.le_refl _, by omega, fun h => absurd h (by simp), fun i hi => absurd hi (by simp)⟩
  · simp only [Value.cells, List.cons.injEq, and_true, Value.slice.injEq] at hcs
    obtain ⟨rfl, rfl, rfl⟩ := hcs
    simp only [if_true] at hm
    have hcap : cap * 128 ≤ 140737488351232 := by
      simp only [Prod.mk.injEq] at hx
      have := sized_slice hsz hj (hd.trans (by rw [hx.1])) Try.underlying35
      rw [tagB] at this
      simp only [List.length_map, List.length_range] at this
      have e : len + (m - len) = cap := by omega
      rw [e] at this
      unfold reachBytes at this
      omega
    have hex : ∀ i, i < len → ∃ t : Tag, (∀ j v, t.cells.toList[j]? = some v → W.cell? (a.add (i * 19 + j)) = some v) ∧ t.Fit := by
      intro i hil
      obtain ⟨cs', hc, ht'⟩ := hi i (by omega)
      rw [tagC] at hc
      obtain ⟨t, ht, hfit⟩ := tag_of_cells ht'
      refine ⟨t, fun j v hj => ?_, hfit⟩
      obtain ⟨_, hcl, hat⟩ := World.cells?_some hc
      rw [← ht] at hj
      have hjl : j < 19 := by have := (List.getElem?_eq_some_iff.1 hj).1; omega
      have := hat j hjl
      rw [← Go.Deep.add_add, this, hj]
    obtain ⟨S, hS⟩ := choose_lt hex
    refine ⟨some a, cap, (List.range len).map S, by simp, by simp; exact hl, hcap, fun hpos => ?_, fun i hil => ?_⟩
    · simp only [List.length_map, List.length_range] at hpos
      obtain ⟨b, off, spot⟩ := a
      have hspot : spot = none := by simpa [Addr.add] using World.cell?_spot ((hS 0 hpos).1 0 _ rfl)
      subst hspot
      refine ⟨b, off, rfl, World.block_lt_of_cell? _ _ ((hS 0 hpos).1 0 _ rfl), fun i hil => ?_⟩
      simp only [List.length_map, List.length_range] at hil
      have e : ((List.range len).map S).getD i t0 = S i := by simp [hil]
      rw [e]
      intro j v hj
      have := (hS i hil).1 j v hj
      simp only [Go.WideShapes.add_plain] at this
      rw [Nat.add_assoc]
      exact this
    · simp only [List.length_map, List.length_range] at hil
      have e : ((List.range len).map S).getD i t0 = S i := by simp [hil]
      rw [e]
      exact (hS i hil).2
end Go.Proofs.Ythnhholpkomdhaa
