/-
  Plain laws of the scale: what a number means, two ways to round alike. Conditions: none.
-/
import Lean
namespace Go.Proofs.Ytbfdecfdmigoiaa

structure Sca where
  wide : Bool
  signed : Bool
  swap : Bool
  mul : Int
  div : Int
  add : Int
deriving DecidableEq

def Sca.Ok (s : Sca) : Prop := s.mul ≠ 0 ∧ (-1000000 ≤ s.mul ∧ s.mul ≤ 1000000) ∧ (1 ≤ s.div ∧ s.div ≤ 1000000) ∧ (-1099511627776 ≤ s.add ∧ s.add ≤ 1099511627776) ∧ (s.swap = true → s.wide = true)
instance (s : Sca) : Decidable s.Ok := by unfold Sca.Ok; infer_instance

/-- the nearest whole number, halves away from 0. -/
def near0 (n d : Int) : Int := (2 * n + d).tdiv (2 * d)
def near (n d : Int) : Int := if n < 0 then -near0 (-n) d else near0 n d
/-- the document's. -/
def nearR (n d : Int) : Int := if d ≤ 2 * n.tmod d then n.tdiv d + 1 else if 2 * n.tmod d ≤ -d then n.tdiv d - 1 else n.tdiv d

theorem near0_spec {n d : Int} (hd : 0 < d) (hn : 0 ≤ n) : -d < 2 * (near0 n d * d - n) ∧ 2 * (near0 n d * d - n) ≤ d ∧ 0 ≤ near0 n d := by
  have h0 : 0 ≤ 2 * n + d := by omega
  have h1 : near0 n d = (2 * n + d) / (2 * d) := Int.tdiv_eq_ediv_of_nonneg h0
  have h2 := Int.emod_add_mul_ediv (2 * n + d) (2 * d)
  have h3 := Int.emod_nonneg (2 * n + d) (show 2 * d ≠ 0 by omega)
  have h4 := Int.emod_lt_of_pos (2 * n + d) (show 0 < 2 * d by omega)
  have h5 : 0 ≤ (2 * n + d) / (2 * d) := Int.ediv_nonneg h0 (by omega)
  rw [← h1] at h2 h5
  have h6 : 2 * d * near0 n d = 2 * (near0 n d * d) := by rw [Int.mul_assoc, Int.mul_comm d]
  rw [h6] at h2
  exact ⟨by omega, by omega, h5⟩
theorem near_unique {d q q' n : Int} (hd : 0 < d) (h1 : -d < 2 * (q * d - n)) (h2 : 2 * (q * d - n) ≤ d) (h3 : -d < 2 * (q' * d - n)) (h4 : 2 * (q' * d - n) ≤ d) : q = q' := by
  rcases Int.lt_trichotomy q q' with h | h | h
  · have : (q + 1) * d ≤ q' * d := Int.mul_le_mul_of_nonneg_right (by omega) (by omega)
    rw [Int.add_mul, Int.one_mul] at this
    omega
  · exact h
  · have : (q' + 1) * d ≤ q * d := Int.mul_le_mul_of_nonneg_right (by omega) (by omega)
    rw [Int.add_mul, Int.one_mul] at this
    omega
theorem nearR_pos {n d : Int} (hd : 0 < d) (hn : 0 ≤ n) : nearR n d = near0 n d := by
  obtain ⟨a, b, c⟩ := near0_spec hd hn
  have h1 : n.tdiv d = n / d := Int.tdiv_eq_ediv_of_nonneg hn
  have h2 : n.tmod d = n % d := Int.tmod_eq_emod_of_nonneg hn
  have h3 := Int.emod_add_mul_ediv n d
  have h4 := Int.emod_nonneg n (show d ≠ 0 by omega)
  have h5 := Int.emod_lt_of_pos n hd
  rw [Int.mul_comm] at h3
  unfold nearR
  rw [h1, h2]
  by_cases hx : d ≤ 2 * (n % d)
  · rw [if_pos hx]
    refine near_unique hd (n := n) ?_ ?_ a b
    · rw [Int.add_mul, Int.one_mul]; omega
    · rw [Int.add_mul, Int.one_mul]; omega
  · rw [if_neg hx, if_neg (by omega)]
    refine near_unique hd (n := n) ?_ ?_ a b <;> omega
theorem nearR_neg {n d : Int} (hd : 0 < d) : nearR (-n) d = -nearR n d := by
  unfold nearR
  rw [Int.neg_tdiv, Int.neg_tmod]
  by_cases h1 : d ≤ 2 * n.tmod d
  · rw [if_pos h1, if_neg (by omega), if_pos (by omega)]; omega
  · by_cases h2 : 2 * n.tmod d ≤ -d
    · rw [if_neg h1, if_pos h2, if_pos (by omega)]; omega
    · rw [if_neg h1, if_neg h2, if_neg (by omega), if_neg (by omega)]
theorem near_ref {n d : Int} (hd : 0 < d) : near n d = nearR n d := by
  unfold near
  by_cases hn : n < 0
  · rw [if_pos hn, ← nearR_pos hd (by omega), nearR_neg hd]; omega
  · rw [if_neg hn, nearR_pos hd (by omega)]
theorem near_neg {n d : Int} (hd : 0 < d) : near (-n) d = -near n d := by rw [near_ref hd, near_ref hd, nearR_neg hd]
theorem near_spec {n d : Int} (hd : 0 < d) : 2 * (near n d * d - n) ≤ d ∧ -d ≤ 2 * (near n d * d - n) ∧ (n < 0 → 2 * (near n d * d - n) < d) ∧ (0 < n → -d < 2 * (near n d * d - n)) := by
  unfold near
  by_cases hn : n < 0
  · rw [if_pos hn]
    obtain ⟨a, b, c⟩ := near0_spec (n := -n) hd (by omega)
    rw [Int.neg_mul]
    exact ⟨by omega, by omega, fun _ => by omega, fun _ => by omega⟩
  · rw [if_neg hn]
    obtain ⟨a, b, c⟩ := near0_spec (n := n) hd (by omega)
    exact ⟨by omega, by omega, fun _ => by omega, fun _ => by omega⟩
theorem near_mono {n m d : Int} (hd : 0 < d) (h : n ≤ m) : near n d ≤ near m d := by
  obtain ⟨a1, a2, a3, a4⟩ := near_spec (n := n) hd
  obtain ⟨b1, b2, b3, b4⟩ := near_spec (n := m) hd
  rcases Int.lt_or_le (near m d) (near n d) with hlt | hle
  · exfalso
    have : (near m d + 1) * d ≤ near n d * d := Int.mul_le_mul_of_nonneg_right (by omega) (by omega)
    rw [Int.add_mul, Int.one_mul] at this
    have e : n = m := by omega
    subst e
    omega
  · exact hle
end Go.Proofs.Ytbfdecfdmigoiaa
