/-
  What is proved here: which of two keys is below the other (chapter 15). Conditions: none.
-/
import Derived.Test.YtmmikolcipcldaaCore2
import Derived.Test.YtmmikolcipcldaaRows
import Derived.BigQuiet
import Derived.Deep.QuietTactic
import Derived.Deep.LoopGhost
import Derived.WalkLawsBesides
import Derived.WalkSpells
import Derived.BigGuardPart
import Derived.Deep.DeepCutAuto
import Derived.RegionTactic
import Derived.BigRegion
import Derived.Deep.RegionHeld3
namespace Go.Proofs.Ytmmikolcipcldaa
open Go.RowKit Go.Deep

structure Ky where
  t : Int
  s : Int
deriving DecidableEq
def Ky.cells (k : Ky) : Array Value := #[.int .i64 k.t, .int .i64 k.s]
def bel (a b : Ky) : Bool := decide (a.t < b.t ∨ a.t = b.t ∧ a.s < b.s)

theorem bel_irrefl (a : Ky) : bel a a = false := by unfold bel; rw [decide_eq_false_iff_not]; omega
theorem bel_trans {a b c : Ky} (h1 : bel a b = true) (h2 : bel b c = true) : bel a c = true := by
  unfold bel at *
  rw [decide_eq_true_iff] at *
  omega
theorem bel_total {a b : Ky} (h1 : bel a b = false) (h2 : a ≠ b) : bel b a = true := by
  unfold bel at *
  rw [decide_eq_false_iff_not] at h1
  rw [decide_eq_true_iff]
  have : ¬ (a.t = b.t ∧ a.s = b.s) := fun h => h2 (by cases a; cases b; simp_all)
  omega
theorem bel_asymm {a b : Ky} (h1 : bel a b = true) : bel b a = false := by
  cases h : bel b a with
  | false => rfl
  | true => have := bel_trans h1 h; rw [bel_irrefl] at this; cases this
theorem bel_le_trans {a b c : Ky} (h1 : bel b a = false) (h2 : bel c b = false) : bel c a = false := by
  unfold bel at *
  rw [decide_eq_false_iff_not] at *
  omega
theorem bel_lt_le {a b c : Ky} (h1 : bel a b = true) (h2 : bel c b = false) : bel a c = true := by
  unfold bel at *
  rw [decide_eq_false_iff_not] at h2
  rw [decide_eq_true_iff] at *
  omega
theorem bel_le_lt {a b c : Ky} (h1 : bel b a = false) (h2 : bel b c = true) : bel a c = true := by
  unfold bel at *
  rw [decide_eq_false_iff_not] at h1
  rw [decide_eq_true_iff] at *
  omega

theorem below_any (a b : Ky) (w : World) :
    Calls Try.prog 51 #[.agg a.cells, .agg b.cells] w fun e w' => e = .returned (.bool (bel a b)) ∧ Below w.heap.size w w' := by
  obtain ⟨at_, as_⟩ := a
  obtain ⟨bt, bs⟩ := b
  unfold Ky.cells
  dsimp only
  have HD : ∀ r : Bool, r = decide (at_ < bt ∨ at_ = bt ∧ as_ < bs) → r = bel ⟨at_, as_⟩ ⟨bt, bs⟩ := fun r h => h
  by_cases h1 : at_ < bt
  · have HE := Lib.hid (HD true (by rw [eq_comm, decide_eq_true_iff]; omega))
    clear HD
    go_enter Try.func51, Try.ntmps51
    go_wp2
    go_ret
    exact ⟨ret_bool HE.out, by (repeat (first | (with_reducible assumption) | (with_reducible exact Below.refl _ _) | ((with_reducible refine Below.setCell ?_ ?_ _); rotate_left; · (first | omega | (simp; done) | (simp; omega) | (simp at *; omega))) | ((with_reducible refine Below.alloc ?_ ?_ _); rotate_left; · (first | omega | (simp; done) | (simp; omega) | (simp at *; omega))) | (with_reducible refine Below.drew ?_) | (with_reducible refine below_drewN ?_ _) | ((refine Below.trans ?_ (Below.mono (by with_reducible assumption) ?_)); rotate_left; · (first | omega | (simp; done) | (simp; omega) | (simp at *; omega)))))⟩
  · by_cases h2 : at_ = bt
    · subst h2
      by_cases h3 : as_ < bs
      · have HE := Lib.hid (HD true (by rw [eq_comm, decide_eq_true_iff]; omega))
        clear HD
        go_enter Try.func51, Try.ntmps51
        go_wp2
        go_ret
        exact ⟨ret_bool HE.out, by (repeat (first | (with_reducible assumption) | (with_reducible exact Below.refl _ _) | ((with_reducible refine Below.setCell ?_ ?_ _); rotate_left; · (first | omega | (simp; done) | (simp; omega) | (simp at *; omega))) | ((with_reducible refine Below.alloc ?_ ?_ _); rotate_left; · (first | omega | (simp; done) | (simp; omega) | (simp at *; omega))) | (with_reducible refine Below.drew ?_) | (with_reducible refine below_drewN ?_ _) | ((refine Below.trans ?_ (Below.mono (by with_reducible assumption) ?_)); rotate_left; · (first | omega | (simp; done) | (simp; omega) | (simp at *; omega)))))⟩
      · have HE := Lib.hid (HD false (by rw [eq_comm, decide_eq_false_iff_not]; omega))
        clear HD
        go_enter Try.func51, Try.ntmps51
        go_wp2
        go_ret
        exact ⟨ret_bool HE.out, by (repeat (first | (with_reducible assumption) | (with_reducible exact Below.refl _ _) | ((with_reducible refine Below.setCell ?_ ?_ _); rotate_left; · (first | omega | (simp; done) | (simp; omega) | (simp at *; omega))) | ((with_reducible refine Below.alloc ?_ ?_ _); rotate_left; · (first | omega | (simp; done) | (simp; omega) | (simp at *; omega))) | (with_reducible refine Below.drew ?_) | (with_reducible refine below_drewN ?_ _) | ((refine Below.trans ?_ (Below.mono (by with_reducible assumption) ?_)); rotate_left; · (first | omega | (simp; done) | (simp; omega) | (simp at *; omega)))))⟩
    · have HE := Lib.hid (HD false (by rw [eq_comm, decide_eq_false_iff_not]; omega))
      have n2 : (at_ == bt) = false := by rw [beq_eq_false_iff_ne]; exact h2
      clear HD h2
      go_enter Try.func51, Try.ntmps51
      go_wp2
      go_ret
      exact ⟨ret_bool HE.out, by (repeat (first | (with_reducible assumption) | (with_reducible exact Below.refl _ _) | ((with_reducible refine Below.setCell ?_ ?_ _); rotate_left; · (first | omega | (simp; done) | (simp; omega) | (simp at *; omega))) | ((with_reducible refine Below.alloc ?_ ?_ _); rotate_left; · (first | omega | (simp; done) | (simp; omega) | (simp at *; omega))) | (with_reducible refine Below.drew ?_) | (with_reducible refine below_drewN ?_ _) | ((refine Below.trans ?_ (Below.mono (by with_reducible assumption) ?_)); rotate_left; · (first | omega | (simp; done) | (simp; omega) | (simp at *; omega)))))⟩
theorem rbelow_any (a b : Ky) (w : World) :
    Calls Try.prog 20 #[.agg a.cells, .agg b.cells] w fun e w' => e = .returned (.bool (bel a b)) ∧ Below w.heap.size w w' := by
  obtain ⟨at_, as_⟩ := a
  obtain ⟨bt, bs⟩ := b
  unfold Ky.cells
  dsimp only
  have HD : ∀ r : Bool, r = decide (at_ < bt ∨ at_ = bt ∧ as_ < bs) → r = bel ⟨at_, as_⟩ ⟨bt, bs⟩ := fun r h => h
  by_cases h1 : at_ < bt
  · have HE := Lib.hid (HD true (by rw [eq_comm, decide_eq_true_iff]; omega))
    clear HD
    go_enter Try.func20, Try.ntmps20
    go_wp2
    go_ret
    exact ⟨ret_bool HE.out, by (repeat (first | (with_reducible assumption) | (with_reducible exact Below.refl _ _) | ((with_reducible refine Below.setCell ?_ ?_ _); rotate_left; · (first | omega | (simp; done) | (simp; omega) | (simp at *; omega))) | ((with_reducible refine Below.alloc ?_ ?_ _); rotate_left; · (first | omega | (simp; done) | (simp; omega) | (simp at *; omega))) | (with_reducible refine Below.drew ?_) | (with_reducible refine below_drewN ?_ _) | ((refine Below.trans ?_ (Below.mono (by with_reducible assumption) ?_)); rotate_left; · (first | omega | (simp; done) | (simp; omega) | (simp at *; omega)))))⟩
  · by_cases h2 : at_ = bt
    · subst h2
      by_cases h3 : as_ < bs
      · have HE := Lib.hid (HD true (by rw [eq_comm, decide_eq_true_iff]; omega))
        clear HD
        go_enter Try.func20, Try.ntmps20
        go_wp2
        go_ret
        exact ⟨ret_bool HE.out, by (repeat (first | (with_reducible assumption) | (with_reducible exact Below.refl _ _) | ((with_reducible refine Below.setCell ?_ ?_ _); rotate_left; · (first | omega | (simp; done) | (simp; omega) | (simp at *; omega))) | ((with_reducible refine Below.alloc ?_ ?_ _); rotate_left; · (first | omega | (simp; done) | (simp; omega) | (simp at *; omega))) | (with_reducible refine Below.drew ?_) | (with_reducible refine below_drewN ?_ _) | ((refine Below.trans ?_ (Below.mono (by with_reducible assumption) ?_)); rotate_left; · (first | omega | (simp; done) | (simp; omega) | (simp at *; omega)))))⟩
      · have HE := Lib.hid (HD false (by rw [eq_comm, decide_eq_false_iff_not]; omega))
        clear HD
        go_enter Try.func20, Try.ntmps20
        go_wp2
        go_ret
        exact ⟨ret_bool HE.out, by (repeat (first | (with_reducible assumption) | (with_reducible exact Below.refl _ _) | ((with_reducible refine Below.setCell ?_ ?_ _); rotate_left; · (first | omega | (simp; done) | (simp; omega) | (simp at *; omega))) | ((with_reducible refine Below.alloc ?_ ?_ _); rotate_left; · (first | omega | (simp; done) | (simp; omega) | (simp at *; omega))) | (with_reducible refine Below.drew ?_) | (with_reducible refine below_drewN ?_ _) | ((refine Below.trans ?_ (Below.mono (by with_reducible assumption) ?_)); rotate_left; · (first | omega | (simp; done) | (simp; omega) | (simp at *; omega)))))⟩
    · have HE := Lib.hid (HD false (by rw [eq_comm, decide_eq_false_iff_not]; omega))
      have n2 : (at_ == bt) = false := by rw [beq_eq_false_iff_ne]; exact h2
      clear HD h2
      go_enter Try.func20, Try.ntmps20
      go_wp2
      go_ret
      exact ⟨ret_bool HE.out, by (repeat (first | (with_reducible assumption) | (with_reducible exact Below.refl _ _) | ((with_reducible refine Below.setCell ?_ ?_ _); rotate_left; · (first | omega | (simp; done) | (simp; omega) | (simp at *; omega))) | ((with_reducible refine Below.alloc ?_ ?_ _); rotate_left; · (first | omega | (simp; done) | (simp; omega) | (simp at *; omega))) | (with_reducible refine Below.drew ?_) | (with_reducible refine below_drewN ?_ _) | ((refine Below.trans ?_ (Below.mono (by with_reducible assumption) ?_)); rotate_left; · (first | omega | (simp; done) | (simp; omega) | (simp at *; omega)))))⟩
end Go.Proofs.Ytmmikolcipcldaa
