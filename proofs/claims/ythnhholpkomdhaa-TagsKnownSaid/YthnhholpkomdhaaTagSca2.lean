/-
  What is proved here: what Check of package scale answers (chapter 9; turned from chapter 6). Conditions: none.
-/
import Derived.Test.YthnhholpkomdhaaTagSca
import Derived.Deep.DeepCutAuto
namespace Go.Proofs.Ythnhholpkomdhaa
open Go.RowKit Go.Deep

theorem same_clip (x a b : Int) (hab : a ≤ b) : (x == clip x a b) = !decide (x < a ∨ b < x) ∧ (x != clip x a b) = decide (x < a ∨ b < x) := by
  have h : (x = clip x a b) ↔ ¬ (x < a ∨ b < x) := by unfold clip; omega
  by_cases h1 : x < a ∨ b < x
  · have h2 : ¬ x = clip x a b := fun e => (h.1 e) h1
    simp [h1, h2]
  · have h2 := h.2 h1
    rw [← h2]
    simp [h1]
theorem within_same (x a b : Int) (w : World) : Calls Try.prog 31 #[.int .i64 x, .int .i64 a, .int .i64 b] w fun e w' => e = .returned (.int .i64 (clip x a b)) ∧ w' = w :=
  (within_any x a b w).mono fun _ _ h => ⟨h.1, h.2.symm⟩
def CB (w : World) (g : Nat) (s : Sca) (wr : World) : Prop := Blk wr g 23 #[.bool s.wide, .bool s.signed, .bool s.swap, .int .i64 s.mul, .int .i64 s.div, .int .i64 s.add] ∧ Below w.heap.size w wr
theorem CB.all {w wr : World} {g : Nat} {s : Sca} (h : CB w g s wr) :
    wr.cell? ⟨g, 0, none⟩ = some (.bool s.wide) ∧ wr.cell? ⟨g, 1, none⟩ = some (.bool s.signed) ∧ wr.cell? ⟨g, 2, none⟩ = some (.bool s.swap) ∧ wr.cell? ⟨g, 3, none⟩ = some (.int .i64 s.mul) ∧ wr.cell? ⟨g, 4, none⟩ = some (.int .i64 s.div) ∧ wr.cell? ⟨g, 5, none⟩ = some (.int .i64 s.add) ∧ g < wr.heap.size :=
  ⟨h.1.cell 0, h.1.cell 1, h.1.cell 2, h.1.cell 3, h.1.cell 4, h.1.cell 5, h.1.lt⟩

set_option maxHeartbeats 1000000 in
theorem sca_check (s : Sca) (w : World) :
    Calls Try.prog 25 #[.agg s.cells] w fun e w' => e = .returned (.int .i64 s.err) ∧ Below w.heap.size w w' := by
  obtain ⟨wide, signed, swap, mul, div, add⟩ := s
  have HCL := Lib.hid (show (Sca.mk wide signed swap mul div add).cells = #[.bool wide, .bool signed, .bool swap, .int .i64 mul, .int .i64 div, .int .i64 add] from rfl)
  rw [HCL.out]
  have HB := Lib.hid (show CB w w.heap.size (Sca.mk wide signed swap mul div add) (w.alloc (.cells #[.bool wide, .bool signed, .bool swap, .int .i64 mul, .int .i64 div, .int .i64 add] 23)) from ⟨Blk.new _ _ _, by (repeat (first | (with_reducible assumption) | (with_reducible exact Below.refl _ _) | ((with_reducible refine Below.setCell ?_ ?_ _); rotate_left; · (first | omega | (simp; done) | (simp; omega) | (simp at *; omega))) | ((with_reducible refine Below.alloc ?_ ?_ _); rotate_left; · (first | omega | (simp; done) | (simp; omega) | (simp at *; omega))) | (with_reducible refine Below.drew ?_) | (with_reducible refine below_drewN ?_ _) | ((refine Below.trans ?_ (Below.mono (by with_reducible assumption) ?_)); rotate_left; · (first | omega | (simp; done) | (simp; omega) | (simp at *; omega)))))⟩)
  have herr : ∀ n : Int, (n = 0 ∧ (Sca.mk wide signed swap mul div add).Ok ∨ n = 25 ∧ ¬ (Sca.mk wide signed swap mul div add).Ok) → (Sca.mk wide signed swap mul div add).err = n := by
    intro n h
    rcases h with ⟨rfl, h⟩ | ⟨rfl, h⟩
    · exact if_pos h
    · exact if_neg h
  have HR := Lib.hid herr
  clear herr
  go_enter Try.func25, Try.ntmps25
  go_upto_region 1 with fail
  go_cut [3] (fun s3 wx => s3 = .bool (decide (mul = 0 ∨ mul < -1000000 ∨ 1000000 < mul)) ∧ CB w w.heap.size (Sca.mk wide signed swap mul div add) wx)
  case first =>
    obtain ⟨c0, c1, c2, c3, c4, c5, hl⟩ := HB.out.all
    dsimp only at c0 c1 c2 c3 c4 c5
    have HC := Lib.hid (within_same mul (-1000000) 1000000)
    obtain ⟨q1, q2⟩ := same_clip mul (-1000000) 1000000 (by decide)
    by_cases h1 : mul = 0
    · have n1 : (mul == 0) = true := by rw [beq_iff_eq]; exact h1
      have HD := Lib.hid (show decide (mul = 0 ∨ mul < -1000000 ∨ 1000000 < mul) = true from decide_eq_true (.inl h1))
      clear h1
      go_quiet (fail)
      go_wp2_with fail
      go_meet
      exact ⟨by rw [HD.out], HB.out.1.drewN _, by (repeat (first | (with_reducible assumption) | (with_reducible exact Below.refl _ _) | ((with_reducible refine Below.setCell ?_ ?_ _); rotate_left; · (first | omega | (simp; done) | (simp; omega) | (simp at *; omega))) | ((with_reducible refine Below.alloc ?_ ?_ _); rotate_left; · (first | omega | (simp; done) | (simp; omega) | (simp at *; omega))) | (with_reducible refine Below.drew ?_) | (with_reducible refine below_drewN ?_ _) | ((refine Below.trans ?_ (Below.mono (by with_reducible assumption) ?_)); rotate_left; · (first | omega | (simp; done) | (simp; omega) | (simp at *; omega)))))⟩
    · have n1 : (mul == 0) = false := by rw [beq_eq_false_iff_ne]; exact h1
      have HD := Lib.hid (show decide (mul = 0 ∨ mul < -1000000 ∨ 1000000 < mul) = decide (mul < -1000000 ∨ 1000000 < mul) by simp [h1])
      clear h1
      go_quiet ((go_at_call 31; exact Calls.quiet_of_same (HC.out _)))
      go_wp2_with fail
      go_meet
      exact ⟨by rw [HD.out, Bool.decide_or], HB.out.1.drewN _, by (repeat (first | (with_reducible assumption) | (with_reducible exact Below.refl _ _) | ((with_reducible refine Below.setCell ?_ ?_ _); rotate_left; · (first | omega | (simp; done) | (simp; omega) | (simp at *; omega))) | ((with_reducible refine Below.alloc ?_ ?_ _); rotate_left; · (first | omega | (simp; done) | (simp; omega) | (simp at *; omega))) | (with_reducible refine Below.drew ?_) | (with_reducible refine below_drewN ?_ _) | ((refine Below.trans ?_ (Below.mono (by with_reducible assumption) ?_)); rotate_left; · (first | omega | (simp; done) | (simp; omega) | (simp at *; omega)))))⟩
  obtain ⟨rfl, hB⟩ := hcut
  obtain ⟨w0, rfl⟩ : ∃ wq : World, wq = wc := ⟨_, rfl⟩
  clear HB
  have HB := Lib.hid hB
  clear hB
  obtain ⟨b0, hb0⟩ : ∃ b, b = decide (mul = 0 ∨ mul < -1000000 ∨ 1000000 < mul) := ⟨_, rfl⟩
  rw [← hb0]
  have HB0 := Lib.hid hb0
  clear hb0
  cases b0
  rotate_left
  · have HE := Lib.hid (HR.out 25 (.inr ⟨rfl, fun h => by have h1 := of_decide_eq_true HB0.out.symm; have h2 := h.1; have := h.2.1; dsimp only at this h2; omega⟩))
    have hbel := HB.out.2
    go_wp2_with fail
    go_ret
    exact ⟨ret_int HE.out.symm, by (repeat (first | (with_reducible assumption) | (with_reducible exact Below.refl _ _) | ((with_reducible refine Below.setCell ?_ ?_ _); rotate_left; · (first | omega | (simp; done) | (simp; omega) | (simp at *; omega))) | ((with_reducible refine Below.alloc ?_ ?_ _); rotate_left; · (first | omega | (simp; done) | (simp; omega) | (simp at *; omega))) | (with_reducible refine Below.drew ?_) | (with_reducible refine below_drewN ?_ _) | ((refine Below.trans ?_ (Below.mono (by with_reducible assumption) ?_)); rotate_left; · (first | omega | (simp; done) | (simp; omega) | (simp at *; omega)))))⟩
  go_upto_region 3 with fail
  go_cut [15] (fun s3 wx => s3 = .bool (decide (div < 1 ∨ 1000000 < div)) ∧ CB w w.heap.size (Sca.mk wide signed swap mul div add) wx)
  case first =>
    obtain ⟨c0, c1, c2, c3, c4, c5, hl⟩ := HB.out.all
    dsimp only at c0 c1 c2 c3 c4 c5
    have HC := Lib.hid (within_same div 1 1000000)
    obtain ⟨q1, q2⟩ := same_clip div 1 1000000 (by decide)
    have hbel := HB.out.2
    go_quiet ((go_at_call 31; exact Calls.quiet_of_same (HC.out _)))
    go_wp2_with fail
    go_meet
    exact ⟨by rw [Bool.decide_or], HB.out.1.drewN _, by (repeat (first | (with_reducible assumption) | (with_reducible exact Below.refl _ _) | ((with_reducible refine Below.setCell ?_ ?_ _); rotate_left; · (first | omega | (simp; done) | (simp; omega) | (simp at *; omega))) | ((with_reducible refine Below.alloc ?_ ?_ _); rotate_left; · (first | omega | (simp; done) | (simp; omega) | (simp at *; omega))) | (with_reducible refine Below.drew ?_) | (with_reducible refine below_drewN ?_ _) | ((refine Below.trans ?_ (Below.mono (by with_reducible assumption) ?_)); rotate_left; · (first | omega | (simp; done) | (simp; omega) | (simp at *; omega)))))⟩
  obtain ⟨rfl, hB⟩ := hcut
  obtain ⟨w1, rfl⟩ : ∃ wq : World, wq = wc := ⟨_, rfl⟩
  clear HB
  have HB := Lib.hid hB
  clear hB
  obtain ⟨b1, hb1⟩ : ∃ b, b = decide (div < 1 ∨ 1000000 < div) := ⟨_, rfl⟩
  rw [← hb1]
  have HB1 := Lib.hid hb1
  clear hb1
  cases b1
  rotate_left
  · have HE := Lib.hid (HR.out 25 (.inr ⟨rfl, fun h => by have h1 := of_decide_eq_true HB1.out.symm; have h2 := h.1; have := h.2.2.1; dsimp only at this h2; omega⟩))
    have hbel := HB.out.2
    go_wp2_with fail
    go_ret
    exact ⟨ret_int HE.out.symm, by (repeat (first | (with_reducible assumption) | (with_reducible exact Below.refl _ _) | ((with_reducible refine Below.setCell ?_ ?_ _); rotate_left; · (first | omega | (simp; done) | (simp; omega) | (simp at *; omega))) | ((with_reducible refine Below.alloc ?_ ?_ _); rotate_left; · (first | omega | (simp; done) | (simp; omega) | (simp at *; omega))) | (with_reducible refine Below.drew ?_) | (with_reducible refine below_drewN ?_ _) | ((refine Below.trans ?_ (Below.mono (by with_reducible assumption) ?_)); rotate_left; · (first | omega | (simp; done) | (simp; omega) | (simp at *; omega)))))⟩
  go_upto_region 5 with fail
  go_cut [22] (fun s3 wx => s3 = .bool (decide (add < -1099511627776 ∨ 1099511627776 < add)) ∧ CB w w.heap.size (Sca.mk wide signed swap mul div add) wx)
  case first =>
    obtain ⟨c0, c1, c2, c3, c4, c5, hl⟩ := HB.out.all
    dsimp only at c0 c1 c2 c3 c4 c5
    have HC := Lib.hid (within_same add (-1099511627776) 1099511627776)
    obtain ⟨q1, q2⟩ := same_clip add (-1099511627776) 1099511627776 (by decide)
    have hbel := HB.out.2
    go_quiet ((go_at_call 31; exact Calls.quiet_of_same (HC.out _)))
    go_wp2_with fail
    go_meet
    exact ⟨by rw [Bool.decide_or], HB.out.1.drewN _, by (repeat (first | (with_reducible assumption) | (with_reducible exact Below.refl _ _) | ((with_reducible refine Below.setCell ?_ ?_ _); rotate_left; · (first | omega | (simp; done) | (simp; omega) | (simp at *; omega))) | ((with_reducible refine Below.alloc ?_ ?_ _); rotate_left; · (first | omega | (simp; done) | (simp; omega) | (simp at *; omega))) | (with_reducible refine Below.drew ?_) | (with_reducible refine below_drewN ?_ _) | ((refine Below.trans ?_ (Below.mono (by with_reducible assumption) ?_)); rotate_left; · (first | omega | (simp; done) | (simp; omega) | (simp at *; omega)))))⟩
  obtain ⟨rfl, hB⟩ := hcut
  obtain ⟨w2, rfl⟩ : ∃ wq : World, wq = wc := ⟨_, rfl⟩
  clear HB
  have HB := Lib.hid hB
  clear hB
  obtain ⟨b2, hb2⟩ : ∃ b, b = decide (add < -1099511627776 ∨ 1099511627776 < add) := ⟨_, rfl⟩
  rw [← hb2]
  have HB2 := Lib.hid hb2
  clear hb2
  cases b2
  rotate_left
  · have HE := Lib.hid (HR.out 25 (.inr ⟨rfl, fun h => by have h1 := of_decide_eq_true HB2.out.symm; have h2 := h.1; have := h.2.2.2.1; dsimp only at this h2; omega⟩))
    have hbel := HB.out.2
    go_wp2_with fail
    go_ret
    exact ⟨ret_int HE.out.symm, by (repeat (first | (with_reducible assumption) | (with_reducible exact Below.refl _ _) | ((with_reducible refine Below.setCell ?_ ?_ _); rotate_left; · (first | omega | (simp; done) | (simp; omega) | (simp at *; omega))) | ((with_reducible refine Below.alloc ?_ ?_ _); rotate_left; · (first | omega | (simp; done) | (simp; omega) | (simp at *; omega))) | (with_reducible refine Below.drew ?_) | (with_reducible refine below_drewN ?_ _) | ((refine Below.trans ?_ (Below.mono (by with_reducible assumption) ?_)); rotate_left; · (first | omega | (simp; done) | (simp; omega) | (simp at *; omega)))))⟩
  obtain ⟨c0, c1, c2, c3, c4, c5, hl⟩ := HB.out.all
  dsimp only at c0 c1 c2 c3 c4 c5
  have hbel := HB.out.2
  have hw : (swap = true → wide = true) → (Sca.mk wide signed swap mul div add).Ok := fun h => by
    have h0 := of_decide_eq_false HB0.out.symm
    have h1 := of_decide_eq_false HB1.out.symm
    have h2 := of_decide_eq_false HB2.out.symm
    exact ⟨by dsimp only; omega, ⟨by dsimp only; omega, by dsimp only; omega⟩, ⟨by dsimp only; omega, by dsimp only; omega⟩, ⟨by dsimp only; omega, by dsimp only; omega⟩, h⟩
  cases swap
  · have HE := Lib.hid (HR.out 0 (.inl ⟨rfl, hw (fun h => by cases h)⟩))
    clear hw
    go_wp2_with fail
    go_ret
    exact ⟨ret_int HE.out.symm, by (repeat (first | (with_reducible assumption) | (with_reducible exact Below.refl _ _) | ((with_reducible refine Below.setCell ?_ ?_ _); rotate_left; · (first | omega | (simp; done) | (simp; omega) | (simp at *; omega))) | ((with_reducible refine Below.alloc ?_ ?_ _); rotate_left; · (first | omega | (simp; done) | (simp; omega) | (simp at *; omega))) | (with_reducible refine Below.drew ?_) | (with_reducible refine below_drewN ?_ _) | ((refine Below.trans ?_ (Below.mono (by with_reducible assumption) ?_)); rotate_left; · (first | omega | (simp; done) | (simp; omega) | (simp at *; omega)))))⟩
  · cases wide
    · have HE := Lib.hid (HR.out 25 (.inr ⟨rfl, fun h => by have := h.2.2.2.2 rfl; cases this⟩))
      clear hw
      go_wp2_with fail
      go_ret
      exact ⟨ret_int HE.out.symm, by (repeat (first | (with_reducible assumption) | (with_reducible exact Below.refl _ _) | ((with_reducible refine Below.setCell ?_ ?_ _); rotate_left; · (first | omega | (simp; done) | (simp; omega) | (simp at *; omega))) | ((with_reducible refine Below.alloc ?_ ?_ _); rotate_left; · (first | omega | (simp; done) | (simp; omega) | (simp at *; omega))) | (with_reducible refine Below.drew ?_) | (with_reducible refine below_drewN ?_ _) | ((refine Below.trans ?_ (Below.mono (by with_reducible assumption) ?_)); rotate_left; · (first | omega | (simp; done) | (simp; omega) | (simp at *; omega)))))⟩
    · have HE := Lib.hid (HR.out 0 (.inl ⟨rfl, hw (fun _ => rfl)⟩))
      clear hw
      go_wp2_with fail
      go_ret
      exact ⟨ret_int HE.out.symm, by (repeat (first | (with_reducible assumption) | (with_reducible exact Below.refl _ _) | ((with_reducible refine Below.setCell ?_ ?_ _); rotate_left; · (first | omega | (simp; done) | (simp; omega) | (simp at *; omega))) | ((with_reducible refine Below.alloc ?_ ?_ _); rotate_left; · (first | omega | (simp; done) | (simp; omega) | (simp at *; omega))) | (with_reducible refine Below.drew ?_) | (with_reducible refine below_drewN ?_ _) | ((refine Below.trans ?_ (Below.mono (by with_reducible assumption) ?_)); rotate_left; · (first | omega | (simp; done) | (simp; omega) | (simp at *; omega)))))⟩
end Go.Proofs.Ythnhholpkomdhaa
