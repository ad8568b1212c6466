/-
  What is proved here: how two slots are held against each other by the model. Conditions: none.
-/
import Derived.Test.YtaccbkmlkmdmpaaSlotDue
namespace Go.Proofs.Ytaccbkmlkmdmpaa
open Go.RowKit Go.Deep
theorem slotT : Try.prog.underlying 29 = some (.struct (Try.prog.fieldsOf 29)) := by kernel_rfl
theorem slotH : Try.prog.stoodInHeld 29 = false := by kernel_rfl
theorem slotG : Try.prog.eqGuardType Try.prog.depth 29 = false := by kernel_rfl
/-- are three numbers as three others? -/
def eq3 (a b c a' b' c' : Int) : Bool := decide (a = a' ∧ b = b' ∧ c = c')
theorem eq3_self (a b c : Int) : eq3 a b c a b c = true := by simp [eq3]
theorem eq3_iff (x y : Slot) : eq3 x.e x.n x.f y.e y.n y.f = decide (x = y) := by
  unfold eq3
  rw [decide_eq_decide]
  obtain ⟨a, b, c⟩ := x
  obtain ⟨a', b', c'⟩ := y
  simp
theorem eq_slot (a b c a' b' c' : Int) (w : World) : (binOp .eql 29 (.agg #[.int .i64 a, .int .i64 b, .int .i64 c]) (.agg #[.int .i64 a', .int .i64 b', .int .i64 c'])).run Try.prog w = .ok (.bool (eq3 a b c a' b' c')) w := by
  rw [run_eql_struct, run_equalIn_agg _ _ _ _ _ slotT slotH]
  simp [go_sem]
  by_cases h1 : a = a' <;> by_cases h2 : b = b' <;> by_cases h3 : c = c' <;> simp [eq3, h1, h2, h3]
theorem ne_slot (a b c a' b' c' : Int) (w : World) : (binOp .neq 29 (.agg #[.int .i64 a, .int .i64 b, .int .i64 c]) (.agg #[.int .i64 a', .int .i64 b', .int .i64 c'])).run Try.prog w = .ok (.bool (!eq3 a b c a' b' c')) w := by
  rw [run_neq_struct, run_equalIn_agg _ _ _ _ _ slotT slotH]
  simp [go_sem]
  by_cases h1 : a = a' <;> by_cases h2 : b = b' <;> by_cases h3 : c = c' <;> simp [eq3, h1, h2, h3]
end Go.Proofs.Ytaccbkmlkmdmpaa
