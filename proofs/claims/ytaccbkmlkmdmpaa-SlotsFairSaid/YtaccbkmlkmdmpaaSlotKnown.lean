/-
  What is proved here: the laws' own example (chapter 17: known) answers true. Conditions: none.
-/
import Derived.Test.YtaccbkmlkmdmpaaSlotFacts
namespace Go.Proofs.Ytaccbkmlkmdmpaa
open Go.RowKit Go.Deep
attribute [local go_sem high] eq_slot ne_slot eq3_self

theorem new57 (w : World) : Calls Try.prog 15 #[.int .i64 5, .int .i64 7] w (NewBack w ⟨5, 7, 0⟩ 0) := by
  have h := new_any 5 7 w
  rw [show newSlot 5 7 = ⟨5, 7, 0⟩ by decide, show newErr 5 7 = 0 by decide] at h
  exact h

set_option maxHeartbeats 1000000 in
theorem known_any (w : World) : Calls Try.prog 20 #[] w fun e w' => e = .returned (.bool true) ∧ Below w.heap.size w w' := by
  go_enter Try.func20, Try.ntmps20
  go_wp2_with fail
  refine (new57 _).mono ?_
  rintro e w1 ⟨rfl, hb1⟩
  have hw1 := hb1.size; try simp only [World.size_alloc] at hw1
  go_wp2_with fail
  refine (done_at ⟨5, 7, 0⟩ ⟨5, 27, 0⟩ 23 true _ (by decide)).mono ?_
  rintro e w2 ⟨rfl, hb2⟩
  have B0 := (Blk.new w1 29 #[.int .i64 5, .int .i64 7, .int .i64 0]).below hb2 (by first | omega | (simp; done) | (simp; omega) | (simp at *; omega))
  obtain ⟨c0, c1, c2, _, _, _⟩ := B0.three
  have hw2 := hb2.size; try simp only [World.size_alloc] at hw2
  go_wp2_with fail
  refine (done_at ⟨5, 7, 0⟩ ⟨5, 18, 1⟩ 8 false _ (by decide)).mono ?_
  rintro e w3 ⟨rfl, hb3⟩
  have hw3 := hb3.size; try simp only [World.size_alloc] at hw3
  go_wp2_with fail
  go_ret
  exact ⟨rfl, by (repeat (first | (with_reducible assumption) | (with_reducible exact Below.refl _ _) | ((with_reducible refine Below.setCell ?_ ?_ _); rotate_left; · (first | omega | (simp; done) | (simp; omega) | (simp at *; omega))) | ((with_reducible refine Below.alloc ?_ ?_ _); rotate_left; · (first | omega | (simp; done) | (simp; omega) | (simp at *; omega))) | (with_reducible refine Below.drew ?_) | (with_reducible refine below_drewN ?_ _) | ((refine Below.trans ?_ (Below.mono (by with_reducible assumption) ?_)); rotate_left; · (first | omega | (simp; done) | (simp; omega) | (simp at *; omega)))))⟩
end Go.Proofs.Ytaccbkmlkmdmpaa
