/-
  What is proved here: the laws' own example (works) of chapter 6. Conditions: none.
-/
import Derived.Test.YtbfdecfdmigoiaaScaOpen
namespace Go.Proofs.Ytbfdecfdmigoiaa
open Go.ChangeShapes Go.WideShapes Go.ChangeAt Go.RowKit Go.Deep Go.Joins

theorem value_to (s : Sca) (raw v e : Int) (w : World) (h : valTo s raw = (v, e)) :
    Calls Try.prog 18 #[.agg #[.bool s.wide, .bool s.signed, .bool s.swap, .int .i64 s.mul, .int .i64 s.div, .int .i64 s.add], .int .i64 raw] w fun en w' => en = .returned (.tuple #[.int .i64 v, .int .i64 e]) ∧ Below w.heap.size w w' := by
  refine (value_any s raw w).mono ?_
  rintro en w' ⟨rfl, hb⟩
  rw [h]
  exact ⟨rfl, hb⟩
theorem rvalue_to (s : Sca) (raw v e : Int) (w : World) (h : valTo s raw = (v, e)) :
    Calls Try.prog 19 #[.agg #[.bool s.wide, .bool s.signed, .bool s.swap, .int .i64 s.mul, .int .i64 s.div, .int .i64 s.add], .int .i64 raw] w fun en w' => en = .returned (.tuple #[.int .i64 v, .int .i64 e]) ∧ Below w.heap.size w w' := by
  refine (rvalue_any s raw w).mono ?_
  rintro en w' ⟨rfl, hb⟩
  rw [h]
  exact ⟨rfl, hb⟩
theorem check_to (s : Sca) (w : World) :
    Calls Try.prog 15 #[.agg #[.bool s.wide, .bool s.signed, .bool s.swap, .int .i64 s.mul, .int .i64 s.div, .int .i64 s.add]] w fun e w' => e = .returned (.int .i64 s.err) ∧ Below w.heap.size w w' := check_any s w
theorem rcheck_to (s : Sca) (w : World) :
    Calls Try.prog 16 #[.agg #[.bool s.wide, .bool s.signed, .bool s.swap, .int .i64 s.mul, .int .i64 s.div, .int .i64 s.add]] w fun e w' => e = .returned (.int .i64 s.err) ∧ Below w.heap.size w w' := rcheck_any s w

/-- a scale in a block, behind a world. -/
theorem CB.below {w wr w' : World} {g : Nat} {s : Sca} (h : CB w g s wr) (hb : Below wr.heap.size wr w') : CB w g s w' :=
  ⟨Blk.below h.1 hb h.1.lt, h.2.trans (hb.mono h.2.size)⟩

theorem pair12 (w : World) : IntsAt .u16 (w.alloc (.cells #[.int .u16 1, .int .u16 2] 41)) (some ⟨w.heap.size, 0, none⟩) [1, 2] := by
  intro _
  refine ⟨w.heap.size, 0, rfl, by simp, fun i hi => ?_⟩
  have hB := Blk.new w 41 #[.int .u16 1, .int .u16 2]
  have : i = 0 ∨ i = 1 := by simp at hi; omega
  rcases this with rfl | rfl
  · exact hB.cell 0
  · exact hB.cell 1

set_option maxRecDepth 100000 in
set_option maxHeartbeats 2000000 in
theorem works_any (w : World) : Calls Try.prog 11 #[] w fun e w' => e = .returned (.bool true) ∧ Below w.heap.size w w' := by
  have HB := Lib.hid (show CB w w.heap.size ⟨false, false, false, 1, 2, 10⟩ (w.alloc (.cells #[.bool false, .bool false, .bool false, .int .i64 1, .int .i64 2, .int .i64 10] 23)) from ⟨Blk.new _ _ _, by (repeat (first | (with_reducible assumption) | (with_reducible exact Below.refl _ _) | ((with_reducible refine Below.setCell ?_ ?_ _); rotate_left; · (first | omega | (simp; done) | (simp; omega) | (simp at *; omega))) | ((with_reducible refine Below.alloc ?_ ?_ _); rotate_left; · (first | omega | (simp; done) | (simp; omega) | (simp at *; omega))) | (with_reducible refine Below.drew ?_) | (with_reducible refine below_drewN ?_ _) | ((refine Below.trans ?_ (Below.mono (by with_reducible assumption) ?_)); rotate_left; · (first | omega | (simp; done) | (simp; omega) | (simp at *; omega)))))⟩)
  go_enter Try.func11, Try.ntmps11
  obtain ⟨c0, c1, c2, c3, c4, c5, hl⟩ := HB.out.all
  dsimp only at c0 c1 c2 c3 c4 c5
  go_wp2_with fail
  refine (value_to ⟨false, false, false, 1, 2, 10⟩ 3 12 0 _ (by decide)).mono ?_
  rintro e w1 ⟨rfl, hb1⟩
  have HB1 := Lib.hid (HB.out.below hb1)
  clear c0 c1 c2 c3 c4 c5 hl HB hb1
  obtain ⟨c0, c1, c2, c3, c4, c5, hl⟩ := HB1.out.all
  dsimp only at c0 c1 c2 c3 c4 c5
  go_wp2_with fail
  refine (value_to ⟨false, false, false, 1, 2, 10⟩ (-3) 8 0 _ (by decide)).mono ?_
  rintro e w2 ⟨rfl, hb2⟩
  have HB2 := Lib.hid (HB1.out.below hb2)
  clear c0 c1 c2 c3 c4 c5 hl HB1 hb2
  go_wp2_with fail
  refine (raw_any ⟨true, false, false, 1, 1, 0⟩ _ 2 [1, 2] _ (pair12 w2) (by intro x hx; simp at hx; rcases hx with rfl | rfl <;> exact ⟨by decide, by decide⟩)).mono ?_
  rintro e w3 ⟨rfl, hb3⟩
  rw [show rawTo ⟨true, false, false, 1, 1, 0⟩ [1, 2] = (65538, 0) by decide]
  have HW := Lib.hid (HB2.out.2.trans ((((Below.refl _ _).alloc (Nat.le_refl _) _).trans (hb3.mono (by simp))).mono HB2.out.2.size))
  clear hb3
  go_wp2_with fail
  go_ret
  exact ⟨rfl, HW.out⟩
end Go.Proofs.Ytbfdecfdmigoiaa
