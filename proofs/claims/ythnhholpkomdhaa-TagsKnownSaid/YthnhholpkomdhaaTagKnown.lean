/-
  What is proved here: chapter 9's table of two and a list that is none (known). Conditions: none.
-/
import Derived.Test.YthnhholpkomdhaaTagMk
namespace Go.Proofs.Ythnhholpkomdhaa
open Go.RowKit Go.Deep
attribute [local go_sem ↓ high] loadTag_eq storeTag_eq mkTags_eq
attribute [local go_sem] run_storeTag_new run_loadTag_new

theorem rowOf_at : ∀ (ts : List Tag) (i j : Nat), i < ts.length → j < 19 → (rowOf ts)[i * 19 + j]? = (ts.getD i t0).cells.toList[j]?
  | [], i, j, h, _ => absurd h (by simp)
  | t :: ts, i, j, h, hj => by
    have e : rowOf (t :: ts) = t.cells ++ rowOf ts := by
      apply Array.toList_inj.1
      simp [rowOf]
    rw [e, Array.getElem?_append]
    cases i with
    | zero =>
      rw [if_pos (by rw [Tag.size]; omega)]
      simp
    | succ i =>
      rw [if_neg (by rw [Tag.size]; omega), Tag.size, show (i + 1) * 19 + j - 19 = i * 19 + j by omega, rowOf_at ts i j (by simpa using h) hj]
      simp
theorem rowOf_size (ts : List Tag) : (rowOf ts).size = ts.length * 19 := by
  induction ts with
  | nil => rfl
  | cons t ts ih =>
    have e : rowOf (t :: ts) = t.cells ++ rowOf ts := by
      apply Array.toList_inj.1
      simp [rowOf]
    rw [e, Array.size_append, ih, Tag.size, List.length_cons]
    omega
theorem TRow.new (w : World) (ts : List Tag) : TRow (w.alloc (.cells (rowOf ts) 29)) w.heap.size ts := by
  refine ⟨by simp, fun j hj => ?_, fun i hi j v hv => ?_⟩
  · rw [Nat.zero_add, cell_of_row _ _ _ _ _ _ (heap_alloc_last w _)]
    rw [← rowOf_size] at hj
    exact ⟨by rw [Array.getElem?_eq_getElem hj]; rfl, (Blk.new w _ _).frozen j⟩
  · have hj : j < 19 := by have := (List.getElem?_eq_some_iff.1 hv).1; rwa [cells_len] at this
    rw [cell_of_row _ _ _ _ _ _ (heap_alloc_last w _), rowOf_at ts i j hi hj, hv]
theorem all_at (A : Option Addr) (n ca : Nat) (L : List Tag) (e1 : Int) (k : Nat) (w : World) (hn : L.length = n) (hA : TagsAt w A L) (hN : NamesFit L) (hlen : n ≤ 9223372036854775807) (h : allOf L = (e1, k)) :
    Calls Try.prog 16 #[.slice A n ca] w fun e w' => e = .returned (.tuple #[.int .i64 e1, .int .i64 (k : Nat)]) ∧ Below w.heap.size w w' := by
  subst hn
  refine (all_any A ca L w hA hN hlen).mono ?_
  rintro e w' ⟨rfl, hb⟩
  rw [h]
  exact ⟨rfl, hb⟩

theorem known1 : allOf [oneT ⟨#[97]⟩, oneT ⟨#[98]⟩] = (0, 0) := by decide +kernel
theorem known2 : allOf [oneT ⟨#[97]⟩, oneT ⟨#[98]⟩, oneT ⟨#[98]⟩] = (7, 2) := by decide +kernel
theorem names_ok {L : List Tag} (h : (L.all fun t => decide (t.g.size ≤ 9223372036854775807)) = true) : NamesFit L := by
  intro i hi
  rw [List.all_eq_true] at h
  have := h (L.getD i t0) (by rw [List.getD_eq_getElem?_getD, List.getElem?_eq_getElem hi]; simp)
  exact of_decide_eq_true this
theorem known_any (w : World) : Calls Try.prog 15 #[] w fun e w' => e = .returned (.bool true) ∧ Below w.heap.size w w' := by
  go_enter Try.func15, Try.ntmps15
  go_wp2_with fail
  refine (one_any ⟨#[97]⟩ _).mono ?_
  rintro e w1 ⟨rfl, hb1⟩
  go_wp2_with fail
  refine (one_any ⟨#[98]⟩ _).mono ?_
  rintro e w2 ⟨rfl, hb2⟩
  have hbw2 : Below w.heap.size w w2 := hb1.trans (hb2.mono hb1.size)
  clear hb1 hb2
  have hmk : (mkTags 2 #[(0, .agg (oneT ⟨#[97]⟩).cells), (1, .agg (oneT ⟨#[98]⟩).cells)]).run Try.prog w2 = .ok (.slice (some ⟨w2.heap.size, 0, none⟩) 2 2) (w2.alloc (.cells (rowOf [oneT ⟨#[97]⟩, oneT ⟨#[98]⟩]) 29)) := run_mkTags w2 [oneT ⟨#[97]⟩, oneT ⟨#[98]⟩] 2 _ rfl rfl (by omega) (by omega)
  have HT := Lib.hid (TRow.new w2 [oneT ⟨#[97]⟩, oneT ⟨#[98]⟩])
  go_wp2_with fail
  refine (all_at _ 2 2 [oneT ⟨#[97]⟩, oneT ⟨#[98]⟩] 0 0 _ rfl HT.out.at_ (names_ok rfl) (by omega) known1).mono ?_
  rintro e w3 ⟨rfl, hb3⟩
  have hbw3 : Below w.heap.size w w3 := (hbw2.alloc hbw2.size _).trans (hb3.mono (by have := hbw2.size; rw [World.size_alloc]; omega))
  clear hb3 hmk HT hbw2
  go_wp2_with fail
  refine (one_any ⟨#[97]⟩ _).mono ?_
  rintro e w4 ⟨rfl, hb4⟩
  go_wp2_with fail
  refine (one_any ⟨#[98]⟩ _).mono ?_
  rintro e w5 ⟨rfl, hb5⟩
  go_wp2_with fail
  refine (one_any ⟨#[98]⟩ _).mono ?_
  rintro e w6 ⟨rfl, hb6⟩
  have hb36 : Below w3.heap.size w3 w6 := (hb4.trans (hb5.mono hb4.size)).trans (hb6.mono (Nat.le_trans hb4.size hb5.size))
  have hbw6 : Below w.heap.size w w6 := hbw3.trans (hb36.mono hbw3.size)
  clear hb4 hb5 hb6 hb36 hbw3
  have hmk : (mkTags 3 #[(0, .agg (oneT ⟨#[97]⟩).cells), (1, .agg (oneT ⟨#[98]⟩).cells), (2, .agg (oneT ⟨#[98]⟩).cells)]).run Try.prog w6 = .ok (.slice (some ⟨w6.heap.size, 0, none⟩) 3 3) (w6.alloc (.cells (rowOf [oneT ⟨#[97]⟩, oneT ⟨#[98]⟩, oneT ⟨#[98]⟩]) 29)) := run_mkTags w6 [oneT ⟨#[97]⟩, oneT ⟨#[98]⟩, oneT ⟨#[98]⟩] 3 _ rfl rfl (by omega) (by omega)
  have HT := Lib.hid (TRow.new w6 [oneT ⟨#[97]⟩, oneT ⟨#[98]⟩, oneT ⟨#[98]⟩])
  go_wp2_with fail
  refine (all_at _ 3 3 [oneT ⟨#[97]⟩, oneT ⟨#[98]⟩, oneT ⟨#[98]⟩] 7 2 _ rfl HT.out.at_ (names_ok rfl) (by omega) known2).mono ?_
  rintro e w7 ⟨rfl, hb7⟩
  have hbw7 : Below w.heap.size w w7 := (hbw6.alloc hbw6.size _).trans (hb7.mono (by have := hbw6.size; rw [World.size_alloc]; omega))
  clear hb7 hmk HT hbw6
  go_wp2_with fail
  go_ret
  exact ⟨rfl, hbw7⟩
end Go.Proofs.Ythnhholpkomdhaa
