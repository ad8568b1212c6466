/-
  What is proved here: what Pick answers (package outstationkit). Conditions: the second number is at least 1.
-/
import Derived.Test.YtmmikolcipcldaaRows
import Derived.Test.YtmmikolcipcldaaCore
import Derived.WalkLawsBesides
import Derived.IntWalk
namespace Go.Proofs.Ytmmikolcipcldaa
open Go.RowKit Go.Deep

theorem tmod_neg {k n : Int} (hk : k < 0) (hn : 1 ≤ n) : -n < k.tmod n ∧ k.tmod n ≤ 0 ∧ (k.tmod n < 0 → k.tmod n + n = k % n) ∧ (¬ k.tmod n < 0 → k.tmod n = k % n) := by
  have h1 := Int.tmod_eq_emod (a := k) (b := n)
  have e := Int.emod_nonneg k (show n ≠ 0 by omega)
  have e2 := Int.emod_lt_of_pos k (show 0 < n by omega)
  by_cases hd : n ∣ k
  · rw [if_pos (.inr hd)] at h1
    have hz : k % n = 0 := Int.emod_eq_zero_of_dvd hd
    exact ⟨by omega, by omega, fun h => by omega, fun _ => by omega⟩
  · have hz : k % n ≠ 0 := fun h => hd (Int.dvd_of_emod_eq_zero h)
    rw [if_neg (by rintro (h | h); omega; exact hd h)] at h1
    have : (n.natAbs : Int) = n := by omega
    exact ⟨by omega, by omega, fun h => by omega, fun h => by omega⟩
set_option maxHeartbeats 400000 in
theorem pick_any (k n : Int) (w : World) (hk1 : -9223372036854775808 ≤ k) (hk2 : k ≤ 9223372036854775807) (hn : 1 ≤ n) (hn2 : n ≤ 4611686018427387904) :
    Calls Try.prog 22 #[.int .i64 k, .int .i64 n] w fun e w' => e = .returned (.int .i64 (k % n)) ∧ w = w' := by
  have t0 : ¬ n < 1 := by omega
  by_cases h0 : 0 ≤ k
  · have e1 := Int.emod_nonneg k (show n ≠ 0 by omega)
    have e2 := Int.emod_lt_of_pos k (show 0 < n by omega)
    have t1 : ¬ k % n < 0 := by omega
    go_enter Try.func22, Try.ntmps22
    go_wp2
    go_ret
    exact ⟨rfl, rfl⟩
  · obtain ⟨m1, m2, m3, m4⟩ := tmod_neg (show k < 0 by omega) hn
    have M3 := Lib.hid m3
    have M4 := Lib.hid m4
    obtain ⟨r, hr⟩ : ∃ r, r = k.tmod n := ⟨_, rfl⟩
    have HR := Lib.hid hr
    rw [← hr] at m1 m2 M3 M4
    by_cases hlt : r < 0
    · have M5 := Lib.hid (M3.out hlt)
      have t1 : k.tmod n < 0 := by rw [← HR.out]; exact hlt
      rw [hr] at m1 m2 hlt
      clear m3 m4 M3 M4 hr
      go_enter Try.func22, Try.ntmps22
      go_wp2
      go_ret
      exact ⟨ret_int (by rw [← M5.out, HR.out]), rfl⟩
    · have M5 := Lib.hid (M4.out hlt)
      have t1 : ¬ k.tmod n < 0 := by rw [← HR.out]; exact hlt
      rw [hr] at m1 m2 hlt
      clear m3 m4 M3 M4 hr
      go_enter Try.func22, Try.ntmps22
      go_wp2
      go_ret
      exact ⟨ret_int (by rw [← M5.out, HR.out]), rfl⟩
end Go.Proofs.Ytmmikolcipcldaa
