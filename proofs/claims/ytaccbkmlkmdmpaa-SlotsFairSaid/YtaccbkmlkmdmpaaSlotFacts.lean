/-
  What is proved here: what a poll makes of a sound slot, as numbers (chapter 17); and what the law's own example answers. Conditions: none beyond each theorem's own.
-/
import Derived.Test.YtaccbkmlkmdmpaaSlotRef
import Derived.Test.YtaccbkmlkmdmpaaSlotEq
namespace Go.Proofs.Ytaccbkmlkmdmpaa
open Go.RowKit Go.Deep

theorem well_facts (s : Slot) (now : Int) (h : s.Ok) (ht : TimeOk now) :
    ∃ an, s.done now true = ⟨s.e, an, 0⟩ ∧ now < an ∧ s.n < an ∧ an ≤ 4398046511104 ∧ (an - s.n) % s.e = 0 ∧ (an - s.e ≤ now ∨ an - s.e = s.n) ∧ (s.n ≤ 1099511627776 → Slot.Ok ⟨s.e, an, 0⟩) ∧ (now ≤ s.n → an = s.n + s.e) ∧ an ≤ max now s.n + s.e := by
  obtain ⟨h1, h2, h3, h4, h5, h6⟩ := id h
  obtain ⟨t1, t2⟩ := id ht
  refine ⟨(s.well now).n, by simp [Slot.done, h, ht, Slot.well], ?_⟩
  unfold Slot.well Slot.Ok
  dsimp only
  have hx : 0 ≤ max 0 (now - s.n) := by omega
  generalize hxx : max 0 (now - s.n) = x at *
  obtain ⟨q1, q2, q3, q4⟩ := mul_div_room s.e x h1 hx
  have q5 : x < s.e * (x / s.e) + s.e := by
    have := Int.lt_mul_ediv_self_add (x := x) (k := s.e) (by omega)
    omega
  have q6 : 0 < x / s.e → s.e ≤ x := by
    intro hp
    have : s.e * 1 ≤ s.e * (x / s.e) := Int.mul_le_mul_of_nonneg_left (by omega) (by omega)
    omega
  have hm : s.e * (1 + x / s.e) = s.e + s.e * (x / s.e) := by rw [Int.mul_add, Int.mul_one]
  have hmod : (s.n + s.e * (1 + x / s.e) - s.n) % s.e = 0 := by
    have : s.n + s.e * (1 + x / s.e) - s.n = s.e * (1 + x / s.e) := by omega
    rw [this]
    exact Int.mul_emod_right _ _
  have hq0 : x < s.e → s.e * (x / s.e) = 0 := by
    intro hlt
    rw [Int.ediv_eq_zero_of_lt hx hlt, Int.mul_zero]
  rw [hm] at *
  generalize s.e * (x / s.e) = r at *
  refine ⟨by omega, by omega, by omega, hmod, ?_, fun _ => ⟨by omega, by omega, by omega, by omega, by omega, by omega⟩, ?_, by omega⟩
  by_cases hp : x < s.e
  · right
    have := hq0 hp
    omega
  · left
    omega
  · intro hle
    have := hq0 (by omega)
    omega

theorem ill_facts (s : Slot) (now : Int) (h : s.Ok) (ht : TimeOk now) :
    ∃ bn bf, s.done now false = ⟨s.e, bn, bf⟩ ∧ Slot.Ok ⟨s.e, bn, bf⟩ ∧ 2 * s.e ≤ bn - now ∧ bn - now ≤ 32 * s.e ∧ 1 ≤ bf ∧ s.f ≤ bf ∧ bf ≤ 10 ∧ bf = min (s.f + 1) 10 ∧ bn - now = waitOf s.e bf := by
  obtain ⟨h1, h2, h3, h4, h5, h6⟩ := id h
  obtain ⟨t1, t2⟩ := id ht
  have hw : 2 * s.e ≤ waitOf s.e (min (s.f + 1) 10) ∧ waitOf s.e (min (s.f + 1) 10) ≤ 32 * s.e := by
    unfold waitOf
    split
    · omega
    · repeat' split
      all_goals omega
  refine ⟨now + waitOf s.e (min (s.f + 1) 10), min (s.f + 1) 10, by simp [Slot.done, h, ht, Slot.ill], ?_, by omega, by omega, by omega, by omega, by omega, rfl, by omega⟩
  unfold Slot.Ok
  dsimp only
  refine ⟨by omega, by omega, by omega, by omega, by omega, by omega⟩

theorem done_at (s r : Slot) (now : Int) (ok : Bool) (w : World) (h : s.done now ok = r) :
    Calls Try.prog 17 #[.agg #[.int .i64 s.e, .int .i64 s.n, .int .i64 s.f], .int .i64 now, .bool ok] w (SlotBack w r) := by
  subst h
  exact done_any s now ok w

theorem lsound_yes (s : Slot) (w : World) (h : s.Ok) : Calls Try.prog 19 #[.agg #[.int .i64 s.e, .int .i64 s.n, .int .i64 s.f]] w fun e w' => e = .returned (.bool true) ∧ Below w.heap.size w w' :=
  (lsound_any s w).mono fun _ _ ⟨he, hb⟩ => ⟨by rw [he, decide_eq_true h], hb⟩
theorem lsound_no (s : Slot) (w : World) (h : ¬ s.Ok) : Calls Try.prog 19 #[.agg #[.int .i64 s.e, .int .i64 s.n, .int .i64 s.f]] w fun e w' => e = .returned (.bool false) ∧ Below w.heap.size w w' :=
  (lsound_any s w).mono fun _ _ ⟨he, hb⟩ => ⟨by rw [he, decide_eq_false h], hb⟩
end Go.Proofs.Ytaccbkmlkmdmpaa
