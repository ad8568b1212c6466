/-
  What is proved here: how a scale's values rise, turn and lie (plain; chapter 6). Conditions: each theorem's own.
-/
import Derived.Test.YtbfdecfdmigoiaaScaKit
namespace Go.Proofs.Ytbfdecfdmigoiaa
open Go.RowKit Go.Deep

theorem clip_mono {x y a b : Int} (h : x ≤ y) : clip x a b ≤ clip y a b := by unfold clip; omega
theorem clip_neg {x a : Int} (ha : 0 ≤ a) : clip (-x) (-a) a = -clip x (-a) a := by unfold clip; omega
theorem mean_up {s : Sca} {a b : Int} (ho : s.Ok) (hm : 0 < s.mul) (h : a ≤ b) : s.mean a ≤ s.mean b := by
  unfold Sca.mean
  have hd := ho.2.2.1
  have := near_mono (d := s.div) (by omega) (Int.mul_le_mul_of_nonneg_right (c := s.mul) h (by omega))
  exact clip_mono (by omega)
theorem mean_down {s : Sca} {a b : Int} (ho : s.Ok) (hm : s.mul < 0) (h : a ≤ b) : s.mean b ≤ s.mean a := by
  unfold Sca.mean
  have hd := ho.2.2.1
  have h1 : b * s.mul ≤ a * s.mul := by
    have := Int.mul_le_mul_of_nonneg_right (c := -s.mul) h (by omega)
    rw [Int.mul_neg, Int.mul_neg] at this
    omega
  have := near_mono (d := s.div) (by omega) h1
  exact clip_mono (by omega)
def Sca.turned (s : Sca) : Sca := ⟨s.wide, s.signed, s.swap, -s.mul, s.div, -s.add⟩
theorem Sca.turned_ok {s : Sca} (h : s.Ok) : s.turned.Ok := by
  obtain ⟨a, b, c, d, e⟩ := h
  exact ⟨by show -s.mul ≠ 0; omega, ⟨by show _ ≤ -s.mul; omega, by show -s.mul ≤ _; omega⟩, c, ⟨by show _ ≤ -s.add; omega, by show -s.add ≤ _; omega⟩, e⟩
theorem turned_mean {s : Sca} {raw : Int} (h : s.Ok) : s.turned.mean raw = -s.mean raw := by
  have hd := h.2.2.1
  unfold Sca.mean Sca.turned
  dsimp only
  rw [Int.mul_neg, near_neg (by omega), show -near (raw * s.mul) s.div + -s.add = -(near (raw * s.mul) s.div + s.add) by omega]
  exact clip_neg (by decide)
theorem turned_val {s : Sca} {raw v n : Int} (h : s.Ok) (hv : valTo s raw = (v, n)) : valTo s.turned raw = (-v, n) := by
  unfold valTo at hv ⊢
  rw [if_neg (by simp [h])] at hv
  rw [if_neg (by simp [Sca.turned_ok h])]
  by_cases hr : raw < -2147483648 ∨ 4294967295 < raw
  · rw [if_pos hr] at hv ⊢
    injection hv with h1 h2
    subst h1 h2
    rfl
  · rw [if_neg hr] at hv ⊢
    injection hv with h1 h2
    subst h1 h2
    rw [turned_mean h]
/-- an error, or a number's mean. -/
theorem val_ways {s : Sca} {raw v n : Int} (h : valTo s raw = (v, n)) : (v = 0 ∧ n = 25) ∨ (v = 0 ∧ n = 3) ∨ (n = 0 ∧ s.Ok ∧ -2147483648 ≤ raw ∧ raw ≤ 4294967295 ∧ v = s.mean raw) := by
  unfold valTo at h
  by_cases ho : s.Ok
  · rw [if_neg (by simp [ho])] at h
    by_cases hr : raw < -2147483648 ∨ 4294967295 < raw
    · rw [if_pos hr] at h
      injection h with h1 h2
      exact .inr (.inl ⟨h1.symm, h2.symm⟩)
    · rw [if_neg hr] at h
      injection h with h1 h2
      exact .inr (.inr ⟨h2.symm, ho, by omega, by omega, h1.symm⟩)
  · rw [if_pos ho] at h
    injection h with h1 h2
    exact .inl ⟨h1.symm, h2.symm⟩
theorem mean_in (s : Sca) (raw : Int) : -1099511627776 ≤ s.mean raw ∧ s.mean raw ≤ 1099511627776 := by unfold Sca.mean clip; omega
/-- where nothing is cut, a value is a nearest one. -/
theorem mean_near {s : Sca} {raw : Int} (h : s.Ok) (h1 : ¬ s.mean raw = -1099511627776) (h2 : ¬ s.mean raw = 1099511627776) :
    2 * ((s.mean raw - s.add) * s.div - raw * s.mul) ≤ s.div ∧ -s.div ≤ 2 * ((s.mean raw - s.add) * s.div - raw * s.mul) ∧ (raw * s.mul < 0 → 2 * ((s.mean raw - s.add) * s.div - raw * s.mul) < s.div) ∧ (0 < raw * s.mul → -s.div < 2 * ((s.mean raw - s.add) * s.div - raw * s.mul)) := by
  have hd := h.2.2.1
  have e : s.mean raw - s.add = near (raw * s.mul) s.div := by
    unfold Sca.mean clip at h1 h2 ⊢
    omega
  rw [e]
  exact near_spec (by omega)
end Go.Proofs.Ytbfdecfdmigoiaa
