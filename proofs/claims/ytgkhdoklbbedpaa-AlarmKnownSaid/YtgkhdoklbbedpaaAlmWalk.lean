/-
  What is proved here: what the small functions of package alarm, and of its reference, answer (chapter 8). Conditions: none beyond each theorem's own.
-/
import Derived.Test.YtgkhdoklbbedpaaRows
import Derived.Test.YtgkhdoklbbedpaaAlmLaws
import Derived.Test.YtgkhdoklbbedpaaCore2
import Derived.BigQuiet
import Derived.Deep.QuietTactic
import Derived.Deep.LoopGhost
import Derived.WalkLawsBesides
import Derived.WalkSpells
import Derived.BigGuardPart
import Derived.RegionTactic
import Derived.IntWalk
namespace Go.Proofs.Ytgkhdoklbbedpaa
open Go.RowKit Go.Deep

def I64 (n : Int) : Prop := -9223372036854775808 ≤ n ∧ n ≤ 9223372036854775807
theorem I64.of {n : Int} (h : (Lit.int .i64 n).wf = true) : I64 n := by
  simp [Lit.wf, IntKind.min, IntKind.max, IntKind.signed, IntKind.bits] at h
  exact ⟨by omega, by omega⟩
def Lim.cells (l : Lim) : Array Value := #[.bool l.ul, .bool l.uh, .bool l.la, .int .i64 l.lo, .int .i64 l.hi, .int .i64 l.hy]
theorem two_bools (b : Bool) : b = true ∨ b = false := by cases b <;> simp

theorem bound_any (u : Bool) (v : Int) (w : World) :
    Calls Try.prog 20 #[.bool u, .int .i64 v] w fun e w' => e = .returned (.bool (bnd u v)) ∧ w = w' := by
  have hc : v = 0 ∨ (v ≠ 0 ∧ (u = false ∨ (u = true ∧ (v < -1099511627776 ∨ (-1099511627776 ≤ v ∧ (1099511627776 < v ∨ v ≤ 1099511627776)))))) := by
    rcases two_bools u with h | h <;> simp [h] <;> omega
  rcases hc with h1 | ⟨h1, h2 | ⟨h2, h3 | ⟨h3, h4 | h4⟩⟩⟩
  · have n1 : (v == 0) = true := by rw [beq_iff_eq]; exact h1
    have HD := Lib.hid (show bnd u v = true from decide_eq_true (.inl h1))
    clear h1
    go_enter Try.func20, Try.ntmps20
    go_wp2
    go_ret
    exact ⟨ret_bool HD.out.symm, rfl⟩
  all_goals
    have n1 : (v == 0) = false := by rw [beq_eq_false_iff_ne]; exact h1
  · have HD := Lib.hid (show bnd u v = false from decide_eq_false (by simp [h1, h2]))
    subst h2
    clear h1
    go_enter Try.func20, Try.ntmps20
    go_wp2
    go_ret
    exact ⟨ret_bool HD.out.symm, rfl⟩
  · have HD := Lib.hid (show bnd u v = false from decide_eq_false (by omega))
    have t1 : decide (-1099511627776 ≤ v) = false := decide_eq_false (by omega)
    subst h2
    clear h1
    go_enter Try.func20, Try.ntmps20
    go_wp2
    go_ret
    exact ⟨ret_bool HD.out.symm, rfl⟩
  · have HD := Lib.hid (show bnd u v = false from decide_eq_false (by omega))
    have t1 : decide (v ≤ 1099511627776) = false := decide_eq_false (by omega)
    subst h2
    clear h1
    go_enter Try.func20, Try.ntmps20
    go_wp2
    go_ret
    exact ⟨ret_bool HD.out.symm, rfl⟩
  · have HD := Lib.hid (show bnd u v = true from decide_eq_true (.inr ⟨h2, h3, h4⟩))
    subst h2
    clear h1
    go_enter Try.func20, Try.ntmps20
    go_wp2
    go_ret
    exact ⟨ret_bool HD.out.symm, rfl⟩
/-- is a number farther from 0 than values may be? -/
def bey (v : Int) : Bool := decide (v < -1099511627776 ∨ 1099511627776 < v)
theorem beyond_any (v : Int) (w : World) :
    Calls Try.prog 24 #[.int .i64 v] w fun e w' => e = .returned (.bool (bey v)) ∧ w = w' := by
  by_cases h1 : v < -1099511627776
  all_goals
    go_enter Try.func24, Try.ntmps24
    go_wp2
    go_ret
    exact ⟨ret_bool (by unfold bey; first | (symm; rw [decide_eq_true_iff]; omega) | (rw [decide_eq_decide]; omega)), rfl⟩

theorem islow_any (l : Lim) (v : Int) (w : World) :
    Calls Try.prog 21 #[.agg l.cells, .int .i64 v] w fun e w' => e = .returned (.bool (l.low v)) ∧ Below w.heap.size w w' := by
  unfold Lim.cells
  rcases two_bools l.ul with h | h
  all_goals
    have HD := Lib.hid h
    rw [h]
    clear h
    go_enter Try.func21, Try.ntmps21
    go_wp2
    go_ret
    exact ⟨ret_bool (by unfold Lim.low; rw [HD.out]; simp), by (repeat (first | (with_reducible assumption) | (with_reducible exact Below.refl _ _) | ((with_reducible refine Below.setCell ?_ ?_ _); rotate_left; · (first | omega | (simp; done) | (simp; omega) | (simp at *; omega))) | ((with_reducible refine Below.alloc ?_ ?_ _); rotate_left; · (first | omega | (simp; done) | (simp; omega) | (simp at *; omega))) | (with_reducible refine Below.drew ?_) | (with_reducible refine below_drewN ?_ _) | ((refine Below.trans ?_ (Below.mono (by with_reducible assumption) ?_)); rotate_left; · (first | omega | (simp; done) | (simp; omega) | (simp at *; omega)))))⟩
theorem ishigh_any (l : Lim) (v : Int) (w : World) :
    Calls Try.prog 22 #[.agg l.cells, .int .i64 v] w fun e w' => e = .returned (.bool (l.high v)) ∧ Below w.heap.size w w' := by
  unfold Lim.cells
  rcases two_bools l.uh with h | h
  all_goals
    have HD := Lib.hid h
    rw [h]
    clear h
    go_enter Try.func22, Try.ntmps22
    go_wp2
    go_ret
    exact ⟨ret_bool (by unfold Lim.high; rw [HD.out]; simp), by (repeat (first | (with_reducible assumption) | (with_reducible exact Below.refl _ _) | ((with_reducible refine Below.setCell ?_ ?_ _); rotate_left; · (first | omega | (simp; done) | (simp; omega) | (simp at *; omega))) | ((with_reducible refine Below.alloc ?_ ?_ _); rotate_left; · (first | omega | (simp; done) | (simp; omega) | (simp at *; omega))) | (with_reducible refine Below.drew ?_) | (with_reducible refine below_drewN ?_ _) | ((refine Below.trans ?_ (Below.mono (by with_reducible assumption) ?_)); rotate_left; · (first | omega | (simp; done) | (simp; omega) | (simp at *; omega)))))⟩

/-- limits in a block. -/
def LB (w : World) (g : Nat) (l : Lim) : Prop := Blk w g 23 l.cells
theorem LB.all {w : World} {g : Nat} {l : Lim} (h : LB w g l) : w.cell? ⟨g, 0, none⟩ = some (.bool l.ul) ∧ w.cell? ⟨g, 1, none⟩ = some (.bool l.uh) ∧ w.cell? ⟨g, 2, none⟩ = some (.bool l.la) ∧ w.cell? ⟨g, 3, none⟩ = some (.int .i64 l.lo) ∧ w.cell? ⟨g, 4, none⟩ = some (.int .i64 l.hi) ∧ w.cell? ⟨g, 5, none⟩ = some (.int .i64 l.hy) :=
  ⟨Blk.cell h 0, Blk.cell h 1, Blk.cell h 2, Blk.cell h 3, Blk.cell h 4, Blk.cell h 5⟩
theorem side1 (l : Lim) (g : Nat) (v : Int) (w : World) (h : LB w g l) :
    Calls Try.prog 25 #[.int .i64 v, .pointer (some ⟨g, 0, none⟩)] w fun e w' => e = .returned (.bool (l.low v)) ∧ w = w' := by
  obtain ⟨c0, c1, c2, c3, c4, c5⟩ := h.all
  clear h
  rcases two_bools l.ul with h | h
  all_goals
    have HD := Lib.hid h
    rw [h] at c0
    clear h
    go_enter Try.func25, Try.ntmps25
    go_wp2
    go_ret
    exact ⟨ret_bool (by unfold Lim.low; rw [HD.out]; simp), rfl⟩
theorem side3 (l : Lim) (g : Nat) (v : Int) (w : World) (h : LB w g l) :
    Calls Try.prog 27 #[.int .i64 v, .pointer (some ⟨g, 0, none⟩)] w fun e w' => e = .returned (.bool (l.high v)) ∧ w = w' := by
  obtain ⟨c0, c1, c2, c3, c4, c5⟩ := h.all
  clear h
  rcases two_bools l.uh with h | h
  all_goals
    have HD := Lib.hid h
    rw [h] at c1
    clear h
    go_enter Try.func27, Try.ntmps27
    go_wp2
    go_ret
    exact ⟨ret_bool (by unfold Lim.high; rw [HD.out]; simp), rfl⟩
theorem side2 (l : Lim) (g : Nat) (v : Int) (w : World) (h : LB w g l) (hb : -1099511627776 ≤ l.lo ∧ l.lo ≤ 1099511627776) (hy : 0 ≤ l.hy ∧ l.hy ≤ 1099511627776) :
    Calls Try.prog 26 #[.int .i64 v, .pointer (some ⟨g, 0, none⟩)] w fun e w' => e = .returned (.bool (l.back1 v)) ∧ w = w' := by
  obtain ⟨c0, c1, c2, c3, c4, c5⟩ := h.all
  obtain ⟨b1, b2⟩ := hb
  obtain ⟨y1, y2⟩ := hy
  clear h
  rcases two_bools l.ul with h | h
  all_goals
    have HD := Lib.hid h
    rw [h] at c0
    clear h
    go_enter Try.func26, Try.ntmps26
    go_wp2
    go_ret
    exact ⟨ret_bool (by unfold Lim.back1; rw [HD.out]; simp), rfl⟩
theorem side4 (l : Lim) (g : Nat) (v : Int) (w : World) (h : LB w g l) (hb : -1099511627776 ≤ l.hi ∧ l.hi ≤ 1099511627776) (hy : 0 ≤ l.hy ∧ l.hy ≤ 1099511627776) :
    Calls Try.prog 28 #[.int .i64 v, .pointer (some ⟨g, 0, none⟩)] w fun e w' => e = .returned (.bool (l.back2 v)) ∧ w = w' := by
  obtain ⟨c0, c1, c2, c3, c4, c5⟩ := h.all
  obtain ⟨b1, b2⟩ := hb
  obtain ⟨y1, y2⟩ := hy
  clear h
  rcases two_bools l.uh with h | h
  all_goals
    have HD := Lib.hid h
    rw [h] at c1
    clear h
    go_enter Try.func28, Try.ntmps28
    go_wp2
    go_ret
    exact ⟨ret_bool (by unfold Lim.back2; rw [HD.out]; simp), rfl⟩
end Go.Proofs.Ytgkhdoklbbedpaa
