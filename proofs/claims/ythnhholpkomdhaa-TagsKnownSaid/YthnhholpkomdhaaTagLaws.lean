/-
  What is proved here: a tag, what is wrong with it; how a scale is held against the plain one (chapter 9). Conditions: none.
-/
import Derived.Test.YthnhholpkomdhaaName
import Derived.Test.YthnhholpkomdhaaRName
import Derived.Test.YthnhholpkomdhaaTagSca2
import Derived.Test.YthnhholpkomdhaaTagLim
namespace Go.Proofs.Ythnhholpkomdhaa
open Go.RowKit Go.Deep

structure Tag where
  g : ByteArray
  unit : Int
  kind : Int
  addr : Int
  every : Int
  sc : Sca
  bd : Band
  li : Lim
def Tag.cells (t : Tag) : Array Value := #[.string t.g, .int .i64 t.unit, .int .i64 t.kind, .int .i64 t.addr, .int .i64 t.every, .bool t.sc.wide, .bool t.sc.signed, .bool t.sc.swap, .int .i64 t.sc.mul, .int .i64 t.sc.div, .int .i64 t.sc.add, .int .i64 t.bd.dead, .int .i64 t.bd.quiet, .bool t.li.ul, .bool t.li.uh, .bool t.li.la, .int .i64 t.li.lo, .int .i64 t.li.hi, .int .i64 t.li.hy]
def widthOf (wide : Bool) (kind : Int) : Int := if wide = true ∧ (kind = 3 ∨ kind = 4) then 2 else 1
def Tag.width (t : Tag) : Int := widthOf t.sc.wide t.kind
theorem widthOf_in (a : Bool) (k : Int) : 1 ≤ widthOf a k ∧ widthOf a k ≤ 2 := by
  unfold widthOf
  split <;> omega
/-- is a scale the plain one? -/
def eqs (wide signed swap : Bool) (mul div add : Int) : Bool := decide (wide = false ∧ signed = false ∧ swap = false ∧ mul = 1 ∧ div = 1 ∧ add = 0)
def Tag.errs (t : Tag) (b1 b2 b3 b4 b5 b7 : Bool) : Int :=
  if b1 = false then 8 else if b2 = true then 24 else if b3 = true then 28 else if b4 = true then 21 else if b5 = true then 3
  else if t.sc.err ≠ 0 then t.sc.err else if b7 = true then 25 else if bandErr t.bd ≠ 0 then bandErr t.bd else t.li.err
/-- what is wrong with a tag first; 0: nothing. -/
def Tag.err (t : Tag) : Int :=
  t.errs (nameB t.g) (decide (t.unit < 1 ∨ 247 < t.unit)) (decide (t.kind < 1 ∨ 4 < t.kind)) (decide (t.addr < 0 ∨ 65536 - t.width < t.addr)) (decide (t.every < 1 ∨ 1048576 < t.every))
    (decide (t.kind ≤ 2) && !eqs t.sc.wide t.sc.signed t.sc.swap t.sc.mul t.sc.div t.sc.add)

theorem scaT : Try.prog.underlying 23 = some (.struct (Try.prog.fieldsOf 23)) := by kernel_rfl
theorem scaH : Try.prog.stoodInHeld 23 = false := by kernel_rfl
theorem ne_plain (wide signed swap : Bool) (mul div add : Int) (w : World) : (binOp .neq 23 (.agg #[.bool wide, .bool signed, .bool swap, .int .i64 mul, .int .i64 div, .int .i64 add]) (.agg #[.bool false, .bool false, .bool false, .int .i64 1, .int .i64 1, .int .i64 0])).run Try.prog w = .ok (.bool (!eqs wide signed swap mul div add)) w := by
  rw [run_neq_struct, run_equalIn_agg _ _ _ _ _ scaT scaH]
  simp [go_sem]
  by_cases h4 : mul = 1 <;> by_cases h5 : div = 1 <;> by_cases h6 : add = 0 <;> cases wide <;> cases signed <;> cases swap <;> simp [eqs, h4, h5, h6]

theorem width_any (t : Tag) (w : World) :
    Calls Try.prog 11 #[.agg t.cells] w fun e w' => e = .returned (.int .i64 t.width) ∧ Below w.heap.size w w' := by
  obtain ⟨g, unit, kind, addr, every, ⟨wide, signed, swap, mul, div, add⟩, ⟨dead, quiet⟩, ⟨ul, uh, la, lo, hi, hy⟩⟩ := t
  have HW := Lib.hid (show widthOf wide kind = (Tag.mk g unit kind addr every ⟨wide, signed, swap, mul, div, add⟩ ⟨dead, quiet⟩ ⟨ul, uh, la, lo, hi, hy⟩).width from rfl)
  rw [← HW.out]
  unfold Tag.cells
  dsimp only
  cases wide
  · have HD := Lib.hid (show widthOf false kind = 1 by unfold widthOf; simp)
    go_enter Try.func11, Try.ntmps11
    go_wp2
    go_ret
    exact ⟨ret_int HD.out.symm, by (repeat (first | (with_reducible assumption) | (with_reducible exact Below.refl _ _) | ((with_reducible refine Below.setCell ?_ ?_ _); rotate_left; · (first | omega | (simp; done) | (simp; omega) | (simp at *; omega))) | ((with_reducible refine Below.alloc ?_ ?_ _); rotate_left; · (first | omega | (simp; done) | (simp; omega) | (simp at *; omega))) | (with_reducible refine Below.drew ?_) | (with_reducible refine below_drewN ?_ _) | ((refine Below.trans ?_ (Below.mono (by with_reducible assumption) ?_)); rotate_left; · (first | omega | (simp; done) | (simp; omega) | (simp at *; omega)))))⟩
  · by_cases h3 : kind = 3
    · have HD := Lib.hid (show widthOf true kind = 2 by unfold widthOf; simp [h3])
      have n3 : (kind == 3) = true := by rw [beq_iff_eq]; exact h3
      clear h3
      go_enter Try.func11, Try.ntmps11
      go_wp2
      go_ret
      exact ⟨ret_int HD.out.symm, by (repeat (first | (with_reducible assumption) | (with_reducible exact Below.refl _ _) | ((with_reducible refine Below.setCell ?_ ?_ _); rotate_left; · (first | omega | (simp; done) | (simp; omega) | (simp at *; omega))) | ((with_reducible refine Below.alloc ?_ ?_ _); rotate_left; · (first | omega | (simp; done) | (simp; omega) | (simp at *; omega))) | (with_reducible refine Below.drew ?_) | (with_reducible refine below_drewN ?_ _) | ((refine Below.trans ?_ (Below.mono (by with_reducible assumption) ?_)); rotate_left; · (first | omega | (simp; done) | (simp; omega) | (simp at *; omega)))))⟩
    · have n3 : (kind == 3) = false := by rw [beq_eq_false_iff_ne]; exact h3
      by_cases h4 : kind = 4
      · have HD := Lib.hid (show widthOf true kind = 2 by unfold widthOf; simp [h4])
        have n4 : (kind == 4) = true := by rw [beq_iff_eq]; exact h4
        clear h3 h4
        go_enter Try.func11, Try.ntmps11
        go_wp2
        go_ret
        exact ⟨ret_int HD.out.symm, by (repeat (first | (with_reducible assumption) | (with_reducible exact Below.refl _ _) | ((with_reducible refine Below.setCell ?_ ?_ _); rotate_left; · (first | omega | (simp; done) | (simp; omega) | (simp at *; omega))) | ((with_reducible refine Below.alloc ?_ ?_ _); rotate_left; · (first | omega | (simp; done) | (simp; omega) | (simp at *; omega))) | (with_reducible refine Below.drew ?_) | (with_reducible refine below_drewN ?_ _) | ((refine Below.trans ?_ (Below.mono (by with_reducible assumption) ?_)); rotate_left; · (first | omega | (simp; done) | (simp; omega) | (simp at *; omega)))))⟩
      · have HD := Lib.hid (show widthOf true kind = 1 by unfold widthOf; simp [h3, h4])
        have n4 : (kind == 4) = false := by rw [beq_eq_false_iff_ne]; exact h4
        clear h3 h4
        go_enter Try.func11, Try.ntmps11
        go_wp2
        go_ret
        exact ⟨ret_int HD.out.symm, by (repeat (first | (with_reducible assumption) | (with_reducible exact Below.refl _ _) | ((with_reducible refine Below.setCell ?_ ?_ _); rotate_left; · (first | omega | (simp; done) | (simp; omega) | (simp at *; omega))) | ((with_reducible refine Below.alloc ?_ ?_ _); rotate_left; · (first | omega | (simp; done) | (simp; omega) | (simp at *; omega))) | (with_reducible refine Below.drew ?_) | (with_reducible refine below_drewN ?_ _) | ((refine Below.trans ?_ (Below.mono (by with_reducible assumption) ?_)); rotate_left; · (first | omega | (simp; done) | (simp; omega) | (simp at *; omega)))))⟩
theorem rwidth_any (t : Tag) (w : World) :
    Calls Try.prog 12 #[.agg t.cells] w fun e w' => e = .returned (.int .i64 t.width) ∧ Below w.heap.size w w' := by
  obtain ⟨g, unit, kind, addr, every, ⟨wide, signed, swap, mul, div, add⟩, ⟨dead, quiet⟩, ⟨ul, uh, la, lo, hi, hy⟩⟩ := t
  have HW := Lib.hid (show widthOf wide kind = (Tag.mk g unit kind addr every ⟨wide, signed, swap, mul, div, add⟩ ⟨dead, quiet⟩ ⟨ul, uh, la, lo, hi, hy⟩).width from rfl)
  rw [← HW.out]
  unfold Tag.cells
  dsimp only
  have HD : ∀ n : Int, (n = 2 ∧ (wide = true ∧ (kind = 3 ∨ kind = 4)) ∨ n = 1 ∧ ¬ (wide = true ∧ (kind = 3 ∨ kind = 4))) → widthOf wide kind = n := by
    intro n h
    rcases h with ⟨rfl, h⟩ | ⟨rfl, h⟩
    · exact if_pos h
    · exact if_neg h
  by_cases h3 : kind = 3
  · have n3 : (kind == 3) = true := by rw [beq_iff_eq]; exact h3
    cases wide
    · have HE := Lib.hid (HD 1 (by simp))
      clear HD h3
      go_enter Try.func12, Try.ntmps12
      go_wp2
      go_ret
      exact ⟨ret_int HE.out.symm, by (repeat (first | (with_reducible assumption) | (with_reducible exact Below.refl _ _) | ((with_reducible refine Below.setCell ?_ ?_ _); rotate_left; · (first | omega | (simp; done) | (simp; omega) | (simp at *; omega))) | ((with_reducible refine Below.alloc ?_ ?_ _); rotate_left; · (first | omega | (simp; done) | (simp; omega) | (simp at *; omega))) | (with_reducible refine Below.drew ?_) | (with_reducible refine below_drewN ?_ _) | ((refine Below.trans ?_ (Below.mono (by with_reducible assumption) ?_)); rotate_left; · (first | omega | (simp; done) | (simp; omega) | (simp at *; omega)))))⟩
    · have HE := Lib.hid (HD 2 (by simp [h3]))
      clear HD h3
      go_enter Try.func12, Try.ntmps12
      go_wp2
      go_ret
      exact ⟨ret_int HE.out.symm, by (repeat (first | (with_reducible assumption) | (with_reducible exact Below.refl _ _) | ((with_reducible refine Below.setCell ?_ ?_ _); rotate_left; · (first | omega | (simp; done) | (simp; omega) | (simp at *; omega))) | ((with_reducible refine Below.alloc ?_ ?_ _); rotate_left; · (first | omega | (simp; done) | (simp; omega) | (simp at *; omega))) | (with_reducible refine Below.drew ?_) | (with_reducible refine below_drewN ?_ _) | ((refine Below.trans ?_ (Below.mono (by with_reducible assumption) ?_)); rotate_left; · (first | omega | (simp; done) | (simp; omega) | (simp at *; omega)))))⟩
  · have n3 : (kind == 3) = false := by rw [beq_eq_false_iff_ne]; exact h3
    by_cases h4 : kind = 4
    · have n4 : (kind == 4) = true := by rw [beq_iff_eq]; exact h4
      cases wide
      · have HE := Lib.hid (HD 1 (by simp))
        clear HD h3 h4
        go_enter Try.func12, Try.ntmps12
        go_wp2
        go_ret
        exact ⟨ret_int HE.out.symm, by (repeat (first | (with_reducible assumption) | (with_reducible exact Below.refl _ _) | ((with_reducible refine Below.setCell ?_ ?_ _); rotate_left; · (first | omega | (simp; done) | (simp; omega) | (simp at *; omega))) | ((with_reducible refine Below.alloc ?_ ?_ _); rotate_left; · (first | omega | (simp; done) | (simp; omega) | (simp at *; omega))) | (with_reducible refine Below.drew ?_) | (with_reducible refine below_drewN ?_ _) | ((refine Below.trans ?_ (Below.mono (by with_reducible assumption) ?_)); rotate_left; · (first | omega | (simp; done) | (simp; omega) | (simp at *; omega)))))⟩
      · have HE := Lib.hid (HD 2 (by simp [h4]))
        clear HD h3 h4
        go_enter Try.func12, Try.ntmps12
        go_wp2
        go_ret
        exact ⟨ret_int HE.out.symm, by (repeat (first | (with_reducible assumption) | (with_reducible exact Below.refl _ _) | ((with_reducible refine Below.setCell ?_ ?_ _); rotate_left; · (first | omega | (simp; done) | (simp; omega) | (simp at *; omega))) | ((with_reducible refine Below.alloc ?_ ?_ _); rotate_left; · (first | omega | (simp; done) | (simp; omega) | (simp at *; omega))) | (with_reducible refine Below.drew ?_) | (with_reducible refine below_drewN ?_ _) | ((refine Below.trans ?_ (Below.mono (by with_reducible assumption) ?_)); rotate_left; · (first | omega | (simp; done) | (simp; omega) | (simp at *; omega)))))⟩
    · have n4 : (kind == 4) = false := by rw [beq_eq_false_iff_ne]; exact h4
      have HE := Lib.hid (HD 1 (by simp [h3, h4]))
      clear HD h3 h4
      go_enter Try.func12, Try.ntmps12
      go_wp2
      go_ret
      exact ⟨ret_int HE.out.symm, by (repeat (first | (with_reducible assumption) | (with_reducible exact Below.refl _ _) | ((with_reducible refine Below.setCell ?_ ?_ _); rotate_left; · (first | omega | (simp; done) | (simp; omega) | (simp at *; omega))) | ((with_reducible refine Below.alloc ?_ ?_ _); rotate_left; · (first | omega | (simp; done) | (simp; omega) | (simp at *; omega))) | (with_reducible refine Below.drew ?_) | (with_reducible refine below_drewN ?_ _) | ((refine Below.trans ?_ (Below.mono (by with_reducible assumption) ?_)); rotate_left; · (first | omega | (simp; done) | (simp; omega) | (simp at *; omega)))))⟩
end Go.Proofs.Ythnhholpkomdhaa
