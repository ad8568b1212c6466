/-
  What is proved here: what the small functions of package scale, and of its reference, answer (chapter 6). Conditions: each theorem's own.
-/
import Derived.Test.YtbfdecfdmigoiaaRows
import Derived.Test.YtbfdecfdmigoiaaScaLaws
import Derived.Test.YtbfdecfdmigoiaaCore2
import Derived.BigQuiet
import Derived.Deep.QuietTactic
import Derived.Deep.LoopGhost
import Derived.WalkLawsBesides
import Derived.WalkSpells
import Derived.BigGuardPart
import Derived.RegionTactic
import Derived.IntWalk
namespace Go.Proofs.Ytbfdecfdmigoiaa
open Go.RowKit Go.Deep

def I64 (n : Int) : Prop := -9223372036854775808 ≤ n ∧ n ≤ 9223372036854775807
theorem I64.of {n : Int} (h : (Lit.int .i64 n).wf = true) : I64 n := by
  simp [Lit.wf, IntKind.min, IntKind.max, IntKind.signed, IntKind.bits] at h
  exact ⟨by omega, by omega⟩
def Sca.cells (s : Sca) : Array Value := #[.bool s.wide, .bool s.signed, .bool s.swap, .int .i64 s.mul, .int .i64 s.div, .int .i64 s.add]
theorem two_bools (b : Bool) : b = true ∨ b = false := by cases b <;> simp
def clip (x a b : Int) : Int := min (max x a) b

theorem within_any (x a b : Int) (w : World) :
    Calls Try.prog 26 #[.int .i64 x, .int .i64 a, .int .i64 b] w fun e w' => e = .returned (.int .i64 (clip x a b)) ∧ w = w' := by
  by_cases h1 : x < a
  · by_cases h2 : b < a
    · have HD := Lib.hid (show b = clip x a b by unfold clip; omega)
      go_enter Try.func26, Try.ntmps26
      go_wp2
      go_ret
      exact ⟨ret_int HD.out, rfl⟩
    · have HD := Lib.hid (show a = clip x a b by unfold clip; omega)
      go_enter Try.func26, Try.ntmps26
      go_wp2
      go_ret
      exact ⟨ret_int HD.out, rfl⟩
  · by_cases h2 : b < x
    · have HD := Lib.hid (show b = clip x a b by unfold clip; omega)
      go_enter Try.func26, Try.ntmps26
      go_wp2
      go_ret
      exact ⟨ret_int HD.out, rfl⟩
    · have HD := Lib.hid (show x = clip x a b by unfold clip; omega)
      go_enter Try.func26, Try.ntmps26
      go_wp2
      go_ret
      exact ⟨ret_int HD.out, rfl⟩

theorem nearest0 (n d : Int) (w : World) (hn : 0 ≤ n) (hn2 : n ≤ 9000000000000000) (hd : 1 ≤ d) (hd2 : d ≤ 1000000) :
    Calls Try.prog 27 #[.int .i64 n, .int .i64 d] w fun e w' => e = .returned (.int .i64 (near0 n d)) ∧ w = w' := by
  have t1 : decide (n < 0) = false := decide_eq_false (by omega)
  have e1 : wrap64 (2 * n) = 2 * n := IntWalk.wrap64_in _ ⟨by omega, by omega⟩
  have e2 : wrap64 (2 * n + d) = 2 * n + d := IntWalk.wrap64_in _ ⟨by omega, by omega⟩
  have e3 : wrap64 (2 * d) = 2 * d := IntWalk.wrap64_in _ ⟨by omega, by omega⟩
  obtain ⟨p1, p2, p3⟩ := near0_spec (n := n) (d := d) (by omega) hn
  have hz : ¬ 2 * d = 0 := by omega
  have HD := Lib.hid (show (2 * n + d) / (2 * d) = near0 n d from (Int.tdiv_eq_ediv_of_nonneg (by omega)).symm)
  go_enter Try.func27, Try.ntmps27
  go_wp2
  go_ret
  exact ⟨ret_int HD.out, rfl⟩
theorem span_any (s : Sca) (w : World) :
    Calls Try.prog 24 #[.agg s.cells] w fun e w' => e = .returned (.int .i64 (if s.wide = true then 4294967296 else 65536)) ∧ Below w.heap.size w w' := by
  obtain ⟨wide, signed, swap, mul, div, add⟩ := s
  have HCL := Lib.hid (show (Sca.mk wide signed swap mul div add).cells = #[.bool wide, .bool signed, .bool swap, .int .i64 mul, .int .i64 div, .int .i64 add] from rfl)
  rw [HCL.out]
  cases wide
  · go_enter Try.func24, Try.ntmps24
    go_wp2
    go_ret
    exact ⟨rfl, by (repeat (first | (with_reducible assumption) | (with_reducible exact Below.refl _ _) | ((with_reducible refine Below.setCell ?_ ?_ _); rotate_left; · (first | omega | (simp; done) | (simp; omega) | (simp at *; omega))) | ((with_reducible refine Below.alloc ?_ ?_ _); rotate_left; · (first | omega | (simp; done) | (simp; omega) | (simp at *; omega))) | (with_reducible refine Below.drew ?_) | (with_reducible refine below_drewN ?_ _) | ((refine Below.trans ?_ (Below.mono (by with_reducible assumption) ?_)); rotate_left; · (first | omega | (simp; done) | (simp; omega) | (simp at *; omega)))))⟩
  · go_enter Try.func24, Try.ntmps24
    go_wp2
    go_ret
    exact ⟨rfl, by (repeat (first | (with_reducible assumption) | (with_reducible exact Below.refl _ _) | ((with_reducible refine Below.setCell ?_ ?_ _); rotate_left; · (first | omega | (simp; done) | (simp; omega) | (simp at *; omega))) | ((with_reducible refine Below.alloc ?_ ?_ _); rotate_left; · (first | omega | (simp; done) | (simp; omega) | (simp at *; omega))) | (with_reducible refine Below.drew ?_) | (with_reducible refine below_drewN ?_ _) | ((refine Below.trans ?_ (Below.mono (by with_reducible assumption) ?_)); rotate_left; · (first | omega | (simp; done) | (simp; omega) | (simp at *; omega)))))⟩
theorem near0_le {n d : Int} (hn : 0 ≤ n) (hd : 1 ≤ d) : near0 n d ≤ 2 * n + d := by
  have h : near0 n d = (2 * n + d) / (2 * d) := Int.tdiv_eq_ediv_of_nonneg (by omega)
  rw [h]
  exact Int.ediv_le_self _ (by omega)
theorem nearest_any (n d : Int) (w : World) (hn : -9000000000000000 ≤ n) (hn2 : n ≤ 9000000000000000) (hd : 1 ≤ d) (hd2 : d ≤ 1000000) :
    Calls Try.prog 27 #[.int .i64 n, .int .i64 d] w fun e w' => e = .returned (.int .i64 (near n d)) ∧ w = w' := by
  by_cases h : n < 0
  · obtain ⟨p1, p2, p3⟩ := near0_spec (n := -n) (d := d) (by omega) (by omega)
    have p4 := near0_le (n := -n) (d := d) (by omega) hd
    have HD := Lib.hid (show -near0 (-n) d = near n d by unfold near; rw [if_pos h])
    have e1 : wrap64 (-n) = -n := IntWalk.wrap64_in _ ⟨by omega, by omega⟩
    have e2 : wrap64 (-near0 (-n) d) = -near0 (-n) d := IntWalk.wrap64_in _ ⟨by omega, by omega⟩
    go_enter Try.func27, Try.ntmps27
    go_wp2_with fail
    refine (nearest0 (-n) d _ (by omega) (by omega) hd hd2).mono ?_
    rintro e w1 ⟨rfl, rfl⟩
    go_wp2_with fail
    go_ret
    exact ⟨ret_int HD.out, rfl⟩
  · have HD : near0 n d = near n d := by unfold near; rw [if_neg h]
    rw [← HD]
    exact nearest0 n d w (by omega) hn2 hd hd2
theorem rnearest_any (n d : Int) (w : World) (hn : -9000000000000000 ≤ n) (hn2 : n ≤ 9000000000000000) (hd : 1 ≤ d) (hd2 : d ≤ 1000000) :
    Calls Try.prog 28 #[.int .i64 n, .int .i64 d] w fun e w' => e = .returned (.int .i64 (nearR n d)) ∧ w = w' := by
  have hm1 : n.tmod d < d := Int.tmod_lt_of_pos n (by omega)
  have hm2 : -d < n.tmod d := by
    have := Int.tmod_lt_of_pos (-n) (show 0 < d by omega)
    rw [Int.neg_tmod] at this
    omega
  have hq : -9000000000000000 ≤ n.tdiv d ∧ n.tdiv d ≤ 9000000000000000 := by
    by_cases h : 0 ≤ n
    · have h1 : n.tdiv d = n / d := Int.tdiv_eq_ediv_of_nonneg h
      have h2 := Int.ediv_le_self (a := n) d h
      have h3 := Int.ediv_nonneg (a := n) (b := d) h (by omega)
      omega
    · have h0 : (-n).tdiv d = -n / d := Int.tdiv_eq_ediv_of_nonneg (by omega)
      have h2 := Int.ediv_le_self (a := -n) d (by omega)
      have h3 := Int.ediv_nonneg (a := -n) (b := d) (by omega) (by omega)
      rw [Int.neg_tdiv] at h0
      omega
  have hz : ¬ d = 0 := by omega
  obtain ⟨q, hqe⟩ : ∃ q, q = n.tdiv d := ⟨_, rfl⟩
  obtain ⟨r, hre⟩ : ∃ r, r = n.tmod d := ⟨_, rfl⟩
  have HD0 : nearR n d = if d ≤ 2 * r then q + 1 else if 2 * r ≤ -d then q - 1 else q := by unfold nearR; rw [hqe, hre]
  rw [← hqe] at hq
  rw [← hre] at hm1 hm2
  have hqe' := hqe.symm
  have hre' := hre.symm
  clear hqe hre
  by_cases h1 : d ≤ 2 * r
  · rw [if_pos h1] at HD0
    have HD := Lib.hid HD0.symm
    clear HD0
    go_enter Try.func28, Try.ntmps28
    go_wp2_with fail
    go_ret
    exact ⟨ret_int HD.out, rfl⟩
  · rw [if_neg h1] at HD0
    by_cases h2 : 2 * r ≤ -d
    · rw [if_pos h2] at HD0
      have HD := Lib.hid HD0.symm
      clear HD0
      go_enter Try.func28, Try.ntmps28
      go_wp2_with fail
      go_ret
      exact ⟨ret_int HD.out, rfl⟩
    · rw [if_neg h2] at HD0
      have HD := Lib.hid HD0.symm
      clear HD0
      go_enter Try.func28, Try.ntmps28
      go_wp2_with fail
      go_ret
      exact ⟨ret_int HD.out, rfl⟩
end Go.Proofs.Ytbfdecfdmigoiaa
