/-
  What is proved here: what a scale's Check answers, the reference's too, and the parts of the walks (chapter 9; turned from chapter 6). Conditions: none.
-/
import Derived.Test.YthnhholpkomdhaaRows
import Derived.Test.YthnhholpkomdhaaCore2
import Derived.BigQuiet
import Derived.Deep.QuietTactic
import Derived.Deep.LoopGhost
import Derived.WalkLawsBesides
import Derived.WalkSpells
import Derived.BigGuardPart
import Derived.RegionTactic
import Derived.IntWalk
namespace Go.Proofs.Ythnhholpkomdhaa
open Go.RowKit Go.Deep

structure Sca where
  wide : Bool
  signed : Bool
  swap : Bool
  mul : Int
  div : Int
  add : Int
deriving DecidableEq

def Sca.Ok (s : Sca) : Prop := s.mul ≠ 0 ∧ (-1000000 ≤ s.mul ∧ s.mul ≤ 1000000) ∧ (1 ≤ s.div ∧ s.div ≤ 1000000) ∧ (-1099511627776 ≤ s.add ∧ s.add ≤ 1099511627776) ∧ (s.swap = true → s.wide = true)
instance (s : Sca) : Decidable s.Ok := by unfold Sca.Ok; infer_instance

def I64 (n : Int) : Prop := -9223372036854775808 ≤ n ∧ n ≤ 9223372036854775807
theorem I64.of {n : Int} (h : (Lit.int .i64 n).wf = true) : I64 n := by
  simp [Lit.wf, IntKind.min, IntKind.max, IntKind.signed, IntKind.bits] at h
  exact ⟨by omega, by omega⟩
def Sca.cells (s : Sca) : Array Value := #[.bool s.wide, .bool s.signed, .bool s.swap, .int .i64 s.mul, .int .i64 s.div, .int .i64 s.add]
theorem two_bools (b : Bool) : b = true ∨ b = false := by cases b <;> simp
def clip (x a b : Int) : Int := min (max x a) b

theorem within_any (x a b : Int) (w : World) :
    Calls Try.prog 31 #[.int .i64 x, .int .i64 a, .int .i64 b] w fun e w' => e = .returned (.int .i64 (clip x a b)) ∧ w = w' := by
  by_cases h1 : x < a
  · by_cases h2 : b < a
    · have HD := Lib.hid (show b = clip x a b by unfold clip; omega)
      go_enter Try.func31, Try.ntmps31
      go_wp2
      go_ret
      exact ⟨ret_int HD.out, rfl⟩
    · have HD := Lib.hid (show a = clip x a b by unfold clip; omega)
      go_enter Try.func31, Try.ntmps31
      go_wp2
      go_ret
      exact ⟨ret_int HD.out, rfl⟩
  · by_cases h2 : b < x
    · have HD := Lib.hid (show b = clip x a b by unfold clip; omega)
      go_enter Try.func31, Try.ntmps31
      go_wp2
      go_ret
      exact ⟨ret_int HD.out, rfl⟩
    · have HD := Lib.hid (show x = clip x a b by unfold clip; omega)
      go_enter Try.func31, Try.ntmps31
      go_wp2
      go_ret
      exact ⟨ret_int HD.out, rfl⟩

def Sca.err (s : Sca) : Int := if s.Ok then 0 else 25
set_option maxHeartbeats 1000000 in
theorem sca_rcheck (s : Sca) (w : World) :
    Calls Try.prog 28 #[.agg s.cells] w fun e w' => e = .returned (.int .i64 s.err) ∧ Below w.heap.size w w' := by
  obtain ⟨wide, signed, swap, mul, div, add⟩ := s
  have HCL := Lib.hid (show (Sca.mk wide signed swap mul div add).cells = #[.bool wide, .bool signed, .bool swap, .int .i64 mul, .int .i64 div, .int .i64 add] from rfl)
  rw [HCL.out]
  have herr : ∀ n : Int, (n = 0 ∧ (Sca.mk wide signed swap mul div add).Ok ∨ n = 25 ∧ ¬ (Sca.mk wide signed swap mul div add).Ok) → (Sca.mk wide signed swap mul div add).err = n := by
    intro n h
    rcases h with ⟨rfl, h⟩ | ⟨rfl, h⟩
    · exact if_pos h
    · exact if_neg h
  by_cases h1 : mul = 0
  · have HE := Lib.hid (herr 25 (.inr ⟨rfl, fun h => h.1 h1⟩))
    have n1 : (mul == 0) = true := by rw [beq_iff_eq]; exact h1
    clear herr h1
    go_enter Try.func28, Try.ntmps28
    go_wp2
    go_ret
    exact ⟨ret_int HE.out.symm, by (repeat (first | (with_reducible assumption) | (with_reducible exact Below.refl _ _) | ((with_reducible refine Below.setCell ?_ ?_ _); rotate_left; · (first | omega | (simp; done) | (simp; omega) | (simp at *; omega))) | ((with_reducible refine Below.alloc ?_ ?_ _); rotate_left; · (first | omega | (simp; done) | (simp; omega) | (simp at *; omega))) | (with_reducible refine Below.drew ?_) | (with_reducible refine below_drewN ?_ _) | ((refine Below.trans ?_ (Below.mono (by with_reducible assumption) ?_)); rotate_left; · (first | omega | (simp; done) | (simp; omega) | (simp at *; omega)))))⟩
  have n1 : (mul == 0) = false := by rw [beq_eq_false_iff_ne]; exact h1
  by_cases h2 : mul < -1000000
  · have HE := Lib.hid (herr 25 (.inr ⟨rfl, fun h => by have := h.2.1; dsimp only at this; omega⟩))
    clear herr h1
    go_enter Try.func28, Try.ntmps28
    go_wp2
    go_ret
    exact ⟨ret_int HE.out.symm, by (repeat (first | (with_reducible assumption) | (with_reducible exact Below.refl _ _) | ((with_reducible refine Below.setCell ?_ ?_ _); rotate_left; · (first | omega | (simp; done) | (simp; omega) | (simp at *; omega))) | ((with_reducible refine Below.alloc ?_ ?_ _); rotate_left; · (first | omega | (simp; done) | (simp; omega) | (simp at *; omega))) | (with_reducible refine Below.drew ?_) | (with_reducible refine below_drewN ?_ _) | ((refine Below.trans ?_ (Below.mono (by with_reducible assumption) ?_)); rotate_left; · (first | omega | (simp; done) | (simp; omega) | (simp at *; omega)))))⟩
  by_cases h3 : 1000000 < mul
  · have HE := Lib.hid (herr 25 (.inr ⟨rfl, fun h => by have := h.2.1; dsimp only at this; omega⟩))
    clear herr h1
    go_enter Try.func28, Try.ntmps28
    go_wp2
    go_ret
    exact ⟨ret_int HE.out.symm, by (repeat (first | (with_reducible assumption) | (with_reducible exact Below.refl _ _) | ((with_reducible refine Below.setCell ?_ ?_ _); rotate_left; · (first | omega | (simp; done) | (simp; omega) | (simp at *; omega))) | ((with_reducible refine Below.alloc ?_ ?_ _); rotate_left; · (first | omega | (simp; done) | (simp; omega) | (simp at *; omega))) | (with_reducible refine Below.drew ?_) | (with_reducible refine below_drewN ?_ _) | ((refine Below.trans ?_ (Below.mono (by with_reducible assumption) ?_)); rotate_left; · (first | omega | (simp; done) | (simp; omega) | (simp at *; omega)))))⟩
  by_cases h4 : div < 1
  · have HE := Lib.hid (herr 25 (.inr ⟨rfl, fun h => by have := h.2.2.1; dsimp only at this; omega⟩))
    clear herr h1
    go_enter Try.func28, Try.ntmps28
    go_wp2
    go_ret
    exact ⟨ret_int HE.out.symm, by (repeat (first | (with_reducible assumption) | (with_reducible exact Below.refl _ _) | ((with_reducible refine Below.setCell ?_ ?_ _); rotate_left; · (first | omega | (simp; done) | (simp; omega) | (simp at *; omega))) | ((with_reducible refine Below.alloc ?_ ?_ _); rotate_left; · (first | omega | (simp; done) | (simp; omega) | (simp at *; omega))) | (with_reducible refine Below.drew ?_) | (with_reducible refine below_drewN ?_ _) | ((refine Below.trans ?_ (Below.mono (by with_reducible assumption) ?_)); rotate_left; · (first | omega | (simp; done) | (simp; omega) | (simp at *; omega)))))⟩
  by_cases h5 : 1000000 < div
  · have HE := Lib.hid (herr 25 (.inr ⟨rfl, fun h => by have := h.2.2.1; dsimp only at this; omega⟩))
    clear herr h1
    go_enter Try.func28, Try.ntmps28
    go_wp2
    go_ret
    exact ⟨ret_int HE.out.symm, by (repeat (first | (with_reducible assumption) | (with_reducible exact Below.refl _ _) | ((with_reducible refine Below.setCell ?_ ?_ _); rotate_left; · (first | omega | (simp; done) | (simp; omega) | (simp at *; omega))) | ((with_reducible refine Below.alloc ?_ ?_ _); rotate_left; · (first | omega | (simp; done) | (simp; omega) | (simp at *; omega))) | (with_reducible refine Below.drew ?_) | (with_reducible refine below_drewN ?_ _) | ((refine Below.trans ?_ (Below.mono (by with_reducible assumption) ?_)); rotate_left; · (first | omega | (simp; done) | (simp; omega) | (simp at *; omega)))))⟩
  by_cases h6 : add < -1099511627776
  · have HE := Lib.hid (herr 25 (.inr ⟨rfl, fun h => by have := h.2.2.2.1; dsimp only at this; omega⟩))
    clear herr h1
    go_enter Try.func28, Try.ntmps28
    go_wp2
    go_ret
    exact ⟨ret_int HE.out.symm, by (repeat (first | (with_reducible assumption) | (with_reducible exact Below.refl _ _) | ((with_reducible refine Below.setCell ?_ ?_ _); rotate_left; · (first | omega | (simp; done) | (simp; omega) | (simp at *; omega))) | ((with_reducible refine Below.alloc ?_ ?_ _); rotate_left; · (first | omega | (simp; done) | (simp; omega) | (simp at *; omega))) | (with_reducible refine Below.drew ?_) | (with_reducible refine below_drewN ?_ _) | ((refine Below.trans ?_ (Below.mono (by with_reducible assumption) ?_)); rotate_left; · (first | omega | (simp; done) | (simp; omega) | (simp at *; omega)))))⟩
  by_cases h7 : 1099511627776 < add
  · have HE := Lib.hid (herr 25 (.inr ⟨rfl, fun h => by have := h.2.2.2.1; dsimp only at this; omega⟩))
    clear herr h1
    go_enter Try.func28, Try.ntmps28
    go_wp2
    go_ret
    exact ⟨ret_int HE.out.symm, by (repeat (first | (with_reducible assumption) | (with_reducible exact Below.refl _ _) | ((with_reducible refine Below.setCell ?_ ?_ _); rotate_left; · (first | omega | (simp; done) | (simp; omega) | (simp at *; omega))) | ((with_reducible refine Below.alloc ?_ ?_ _); rotate_left; · (first | omega | (simp; done) | (simp; omega) | (simp at *; omega))) | (with_reducible refine Below.drew ?_) | (with_reducible refine below_drewN ?_ _) | ((refine Below.trans ?_ (Below.mono (by with_reducible assumption) ?_)); rotate_left; · (first | omega | (simp; done) | (simp; omega) | (simp at *; omega)))))⟩
  have hw : (swap = true → wide = true) → (Sca.mk wide signed swap mul div add).Ok := fun h => ⟨h1, ⟨by dsimp only; omega, by dsimp only; omega⟩, ⟨by dsimp only; omega, by dsimp only; omega⟩, ⟨by dsimp only; omega, by dsimp only; omega⟩, h⟩
  cases swap
  · have HE := Lib.hid (herr 0 (.inl ⟨rfl, hw (fun h => by cases h)⟩))
    clear herr h1 hw
    go_enter Try.func28, Try.ntmps28
    go_wp2
    go_ret
    exact ⟨ret_int HE.out.symm, by (repeat (first | (with_reducible assumption) | (with_reducible exact Below.refl _ _) | ((with_reducible refine Below.setCell ?_ ?_ _); rotate_left; · (first | omega | (simp; done) | (simp; omega) | (simp at *; omega))) | ((with_reducible refine Below.alloc ?_ ?_ _); rotate_left; · (first | omega | (simp; done) | (simp; omega) | (simp at *; omega))) | (with_reducible refine Below.drew ?_) | (with_reducible refine below_drewN ?_ _) | ((refine Below.trans ?_ (Below.mono (by with_reducible assumption) ?_)); rotate_left; · (first | omega | (simp; done) | (simp; omega) | (simp at *; omega)))))⟩
  · cases wide
    · have HE := Lib.hid (herr 25 (.inr ⟨rfl, fun h => by have := h.2.2.2.2 rfl; cases this⟩))
      clear herr h1 hw
      go_enter Try.func28, Try.ntmps28
      go_wp2
      go_ret
      exact ⟨ret_int HE.out.symm, by (repeat (first | (with_reducible assumption) | (with_reducible exact Below.refl _ _) | ((with_reducible refine Below.setCell ?_ ?_ _); rotate_left; · (first | omega | (simp; done) | (simp; omega) | (simp at *; omega))) | ((with_reducible refine Below.alloc ?_ ?_ _); rotate_left; · (first | omega | (simp; done) | (simp; omega) | (simp at *; omega))) | (with_reducible refine Below.drew ?_) | (with_reducible refine below_drewN ?_ _) | ((refine Below.trans ?_ (Below.mono (by with_reducible assumption) ?_)); rotate_left; · (first | omega | (simp; done) | (simp; omega) | (simp at *; omega)))))⟩
    · have HE := Lib.hid (herr 0 (.inl ⟨rfl, hw (fun _ => rfl)⟩))
      clear herr h1 hw
      go_enter Try.func28, Try.ntmps28
      go_wp2
      go_ret
      exact ⟨ret_int HE.out.symm, by (repeat (first | (with_reducible assumption) | (with_reducible exact Below.refl _ _) | ((with_reducible refine Below.setCell ?_ ?_ _); rotate_left; · (first | omega | (simp; done) | (simp; omega) | (simp at *; omega))) | ((with_reducible refine Below.alloc ?_ ?_ _); rotate_left; · (first | omega | (simp; done) | (simp; omega) | (simp at *; omega))) | (with_reducible refine Below.drew ?_) | (with_reducible refine below_drewN ?_ _) | ((refine Below.trans ?_ (Below.mono (by with_reducible assumption) ?_)); rotate_left; · (first | omega | (simp; done) | (simp; omega) | (simp at *; omega)))))⟩
end Go.Proofs.Ythnhholpkomdhaa
