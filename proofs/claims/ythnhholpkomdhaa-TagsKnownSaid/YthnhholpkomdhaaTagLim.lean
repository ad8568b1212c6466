/-
  What is proved here: what a band's and limits' Check answers, the reference's too (chapter 9; turned from chapters 7 and 8). Conditions: none.
-/
import Derived.Test.YthnhholpkomdhaaTagSca
import Derived.Deep.DeepCutAuto
import Derived.Deep.RegionHeld3
namespace Go.Proofs.Ythnhholpkomdhaa
open Go.RowKit Go.Deep

structure Lim where
  ul : Bool
  uh : Bool
  la : Bool
  lo : Int
  hi : Int
  hy : Int
def bnd (u : Bool) (v : Int) : Bool := decide (v = 0 ∨ (u = true ∧ -1099511627776 ≤ v ∧ v ≤ 1099511627776))
/-- may limits be? -/
def Lim.Ok (l : Lim) : Prop := 0 ≤ l.hy ∧ l.hy ≤ 1099511627776 ∧ bnd l.ul l.lo = true ∧ bnd l.uh l.hi = true ∧ (l.ul = true → l.uh = true → l.hy < l.hi - l.lo)
instance (l : Lim) : Decidable l.Ok := by unfold Lim.Ok; infer_instance
def Lim.err (l : Lim) : Int := if l.Ok then 0 else 27
theorem ok_bounds {l : Lim} (h : l.Ok) : -1099511627776 ≤ l.lo ∧ l.lo ≤ 1099511627776 ∧ -1099511627776 ≤ l.hi ∧ l.hi ≤ 1099511627776 := by
  obtain ⟨_, _, h3, h4, _⟩ := h
  unfold bnd at h3 h4
  rw [decide_eq_true_iff] at h3 h4
  omega
def Lim.cells (l : Lim) : Array Value := #[.bool l.ul, .bool l.uh, .bool l.la, .int .i64 l.lo, .int .i64 l.hi, .int .i64 l.hy]
theorem bound_any (u : Bool) (v : Int) (w : World) :
    Calls Try.prog 32 #[.bool u, .int .i64 v] w fun e w' => e = .returned (.bool (bnd u v)) ∧ w = w' := by
  have hc : v = 0 ∨ (v ≠ 0 ∧ (u = false ∨ (u = true ∧ (v < -1099511627776 ∨ (-1099511627776 ≤ v ∧ (1099511627776 < v ∨ v ≤ 1099511627776)))))) := by
    rcases two_bools u with h | h <;> simp [h] <;> omega
  rcases hc with h1 | ⟨h1, h2 | ⟨h2, h3 | ⟨h3, h4 | h4⟩⟩⟩
  · have n1 : (v == 0) = true := by rw [beq_iff_eq]; exact h1
    have HD := Lib.hid (show bnd u v = true from decide_eq_true (.inl h1))
    clear h1
    go_enter Try.func32, Try.ntmps32
    go_wp2
    go_ret
    exact ⟨ret_bool HD.out.symm, rfl⟩
  all_goals
    have n1 : (v == 0) = false := by rw [beq_eq_false_iff_ne]; exact h1
  · have HD := Lib.hid (show bnd u v = false from decide_eq_false (by simp [h1, h2]))
    subst h2
    clear h1
    go_enter Try.func32, Try.ntmps32
    go_wp2
    go_ret
    exact ⟨ret_bool HD.out.symm, rfl⟩
  · have HD := Lib.hid (show bnd u v = false from decide_eq_false (by omega))
    have t1 : decide (-1099511627776 ≤ v) = false := decide_eq_false (by omega)
    subst h2
    clear h1
    go_enter Try.func32, Try.ntmps32
    go_wp2
    go_ret
    exact ⟨ret_bool HD.out.symm, rfl⟩
  · have HD := Lib.hid (show bnd u v = false from decide_eq_false (by omega))
    have t1 : decide (v ≤ 1099511627776) = false := decide_eq_false (by omega)
    subst h2
    clear h1
    go_enter Try.func32, Try.ntmps32
    go_wp2
    go_ret
    exact ⟨ret_bool HD.out.symm, rfl⟩
  · have HD := Lib.hid (show bnd u v = true from decide_eq_true (.inr ⟨h2, h3, h4⟩))
    subst h2
    clear h1
    go_enter Try.func32, Try.ntmps32
    go_wp2
    go_ret
    exact ⟨ret_bool HD.out.symm, rfl⟩
/-- is a number farther from 0 than values may be? -/
def bey (v : Int) : Bool := decide (v < -1099511627776 ∨ 1099511627776 < v)
theorem beyond_any (v : Int) (w : World) :
    Calls Try.prog 33 #[.int .i64 v] w fun e w' => e = .returned (.bool (bey v)) ∧ w = w' := by
  by_cases h1 : v < -1099511627776
  all_goals
    go_enter Try.func33, Try.ntmps33
    go_wp2
    go_ret
    exact ⟨ret_bool (by unfold bey; first | (symm; rw [decide_eq_true_iff]; omega) | (rw [decide_eq_decide]; omega)), rfl⟩

theorem ok_cases (l : Lim) :
    (l.hy < 0 ∧ ¬ l.Ok) ∨ (¬ l.hy < 0 ∧ ((1099511627776 < l.hy ∧ ¬ l.Ok) ∨ (¬ 1099511627776 < l.hy ∧ ((bnd l.ul l.lo = false ∧ ¬ l.Ok) ∨ (bnd l.ul l.lo = true ∧ ((bnd l.uh l.hi = false ∧ ¬ l.Ok) ∨ (bnd l.uh l.hi = true ∧
      ((l.ul = false ∧ l.Ok) ∨ (l.ul = true ∧ ((l.uh = false ∧ l.Ok) ∨ (l.uh = true ∧ ((l.hi - l.lo ≤ l.hy ∧ ¬ l.Ok) ∨ (l.hy < l.hi - l.lo ∧ l.Ok))))))))))))) := by
  by_cases h1 : l.hy < 0
  · exact .inl ⟨h1, fun h => by have := h.1; omega⟩
  refine .inr ⟨h1, ?_⟩
  by_cases h2 : 1099511627776 < l.hy
  · exact .inl ⟨h2, fun h => by have := h.2.1; omega⟩
  refine .inr ⟨h2, ?_⟩
  rcases two_bools (bnd l.ul l.lo) with h3 | h3
  rotate_left
  · exact .inl ⟨h3, fun h => by have := h.2.2.1; rw [h3] at this; cases this⟩
  refine .inr ⟨h3, ?_⟩
  rcases two_bools (bnd l.uh l.hi) with h4 | h4
  rotate_left
  · exact .inl ⟨h4, fun h => by have := h.2.2.2.1; rw [h4] at this; cases this⟩
  refine .inr ⟨h4, ?_⟩
  rcases two_bools l.ul with h5 | h5
  rotate_left
  · exact .inl ⟨h5, by omega, by omega, h3, h4, fun h => by rw [h5] at h; cases h⟩
  refine .inr ⟨h5, ?_⟩
  rcases two_bools l.uh with h6 | h6
  rotate_left
  · exact .inl ⟨h6, by omega, by omega, h3, h4, fun _ h => by rw [h6] at h; cases h⟩
  refine .inr ⟨h6, ?_⟩
  by_cases h7 : l.hi - l.lo ≤ l.hy
  · exact .inl ⟨h7, fun h => by have := h.2.2.2.2 h5 h6; omega⟩
  · exact .inr ⟨by omega, by omega, by omega, h3, h4, fun _ _ => by omega⟩

set_option maxHeartbeats 1000000 in
theorem lim_check (l : Lim) (w : World) :
    Calls Try.prog 27 #[.agg l.cells] w fun e w' => e = .returned (.int .i64 l.err) ∧ Below w.heap.size w w' := by
  have hbo := ok_bounds (l := l)
  unfold Lim.cells
  rcases ok_cases l with ⟨h1, hn⟩ | ⟨h1, ⟨h2, hn⟩ | ⟨h2, ⟨h3, hn⟩ | ⟨h3, ⟨h4, hn⟩ | ⟨h4, ⟨h5, hn⟩ | ⟨h5, ⟨h6, hn⟩ | ⟨h6, ⟨h7, hn⟩ | ⟨h7, hn⟩⟩⟩⟩⟩⟩⟩
  all_goals
    have HB := Lib.hid (show bnd l.ul l.lo = true → bnd l.uh l.hi = true → -1099511627776 ≤ l.lo ∧ l.lo ≤ 1099511627776 ∧ -1099511627776 ≤ l.hi ∧ l.hi ≤ 1099511627776 by
      intro a b
      unfold bnd at a b
      rw [decide_eq_true_iff] at a b
      omega)
    first | (have HE := Lib.hid (show l.err = 27 from if_neg hn)) | (have HE := Lib.hid (show l.err = 0 from if_pos hn))
    clear hbo hn
  · go_enter Try.func27, Try.ntmps27
    go_wp2
    go_ret
    exact ⟨ret_int HE.out.symm, by (repeat (first | (with_reducible assumption) | (with_reducible exact Below.refl _ _) | ((with_reducible refine Below.setCell ?_ ?_ _); rotate_left; · (first | omega | (simp; done) | (simp; omega) | (simp at *; omega))) | ((with_reducible refine Below.alloc ?_ ?_ _); rotate_left; · (first | omega | (simp; done) | (simp; omega) | (simp at *; omega))) | (with_reducible refine Below.drew ?_) | (with_reducible refine below_drewN ?_ _) | ((refine Below.trans ?_ (Below.mono (by with_reducible assumption) ?_)); rotate_left; · (first | omega | (simp; done) | (simp; omega) | (simp at *; omega)))))⟩
  · go_enter Try.func27, Try.ntmps27
    go_wp2
    go_ret
    exact ⟨ret_int HE.out.symm, by (repeat (first | (with_reducible assumption) | (with_reducible exact Below.refl _ _) | ((with_reducible refine Below.setCell ?_ ?_ _); rotate_left; · (first | omega | (simp; done) | (simp; omega) | (simp at *; omega))) | ((with_reducible refine Below.alloc ?_ ?_ _); rotate_left; · (first | omega | (simp; done) | (simp; omega) | (simp at *; omega))) | (with_reducible refine Below.drew ?_) | (with_reducible refine below_drewN ?_ _) | ((refine Below.trans ?_ (Below.mono (by with_reducible assumption) ?_)); rotate_left; · (first | omega | (simp; done) | (simp; omega) | (simp at *; omega)))))⟩
  · go_enter Try.func27, Try.ntmps27
    go_wp2_with (go_at_call 32; refine (bound_any _ _ _).mono ?_; rintro e w' ⟨rfl, rfl⟩)
    go_ret
    exact ⟨ret_int HE.out.symm, by (repeat (first | (with_reducible assumption) | (with_reducible exact Below.refl _ _) | ((with_reducible refine Below.setCell ?_ ?_ _); rotate_left; · (first | omega | (simp; done) | (simp; omega) | (simp at *; omega))) | ((with_reducible refine Below.alloc ?_ ?_ _); rotate_left; · (first | omega | (simp; done) | (simp; omega) | (simp at *; omega))) | (with_reducible refine Below.drew ?_) | (with_reducible refine below_drewN ?_ _) | ((refine Below.trans ?_ (Below.mono (by with_reducible assumption) ?_)); rotate_left; · (first | omega | (simp; done) | (simp; omega) | (simp at *; omega)))))⟩
  · go_enter Try.func27, Try.ntmps27
    go_wp2_with (go_at_call 32; refine (bound_any _ _ _).mono ?_; rintro e w' ⟨rfl, rfl⟩)
    go_ret
    exact ⟨ret_int HE.out.symm, by (repeat (first | (with_reducible assumption) | (with_reducible exact Below.refl _ _) | ((with_reducible refine Below.setCell ?_ ?_ _); rotate_left; · (first | omega | (simp; done) | (simp; omega) | (simp at *; omega))) | ((with_reducible refine Below.alloc ?_ ?_ _); rotate_left; · (first | omega | (simp; done) | (simp; omega) | (simp at *; omega))) | (with_reducible refine Below.drew ?_) | (with_reducible refine below_drewN ?_ _) | ((refine Below.trans ?_ (Below.mono (by with_reducible assumption) ?_)); rotate_left; · (first | omega | (simp; done) | (simp; omega) | (simp at *; omega)))))⟩
  · have h3' := h3
    rw [h5] at h3'
    go_enter Try.func27, Try.ntmps27
    go_wp2_with (go_at_call 32; refine (bound_any _ _ _).mono ?_; rintro e w' ⟨rfl, rfl⟩)
    go_ret
    exact ⟨ret_int HE.out.symm, by (repeat (first | (with_reducible assumption) | (with_reducible exact Below.refl _ _) | ((with_reducible refine Below.setCell ?_ ?_ _); rotate_left; · (first | omega | (simp; done) | (simp; omega) | (simp at *; omega))) | ((with_reducible refine Below.alloc ?_ ?_ _); rotate_left; · (first | omega | (simp; done) | (simp; omega) | (simp at *; omega))) | (with_reducible refine Below.drew ?_) | (with_reducible refine below_drewN ?_ _) | ((refine Below.trans ?_ (Below.mono (by with_reducible assumption) ?_)); rotate_left; · (first | omega | (simp; done) | (simp; omega) | (simp at *; omega)))))⟩
  · have h3' := h3
    rw [h5] at h3'
    have h4' := h4
    rw [h6] at h4'
    go_enter Try.func27, Try.ntmps27
    go_wp2_with (go_at_call 32; refine (bound_any _ _ _).mono ?_; rintro e w' ⟨rfl, rfl⟩)
    go_ret
    exact ⟨ret_int HE.out.symm, by (repeat (first | (with_reducible assumption) | (with_reducible exact Below.refl _ _) | ((with_reducible refine Below.setCell ?_ ?_ _); rotate_left; · (first | omega | (simp; done) | (simp; omega) | (simp at *; omega))) | ((with_reducible refine Below.alloc ?_ ?_ _); rotate_left; · (first | omega | (simp; done) | (simp; omega) | (simp at *; omega))) | (with_reducible refine Below.drew ?_) | (with_reducible refine below_drewN ?_ _) | ((refine Below.trans ?_ (Below.mono (by with_reducible assumption) ?_)); rotate_left; · (first | omega | (simp; done) | (simp; omega) | (simp at *; omega)))))⟩
  · obtain ⟨b1, b2, b3, b4⟩ := HB.out h3 h4
    have h3' := h3
    rw [h5] at h3'
    have h4' := h4
    rw [h6] at h4'
    go_enter Try.func27, Try.ntmps27
    go_wp2_with (go_at_call 32; refine (bound_any _ _ _).mono ?_; rintro e w' ⟨rfl, rfl⟩)
    go_ret
    exact ⟨ret_int HE.out.symm, by (repeat (first | (with_reducible assumption) | (with_reducible exact Below.refl _ _) | ((with_reducible refine Below.setCell ?_ ?_ _); rotate_left; · (first | omega | (simp; done) | (simp; omega) | (simp at *; omega))) | ((with_reducible refine Below.alloc ?_ ?_ _); rotate_left; · (first | omega | (simp; done) | (simp; omega) | (simp at *; omega))) | (with_reducible refine Below.drew ?_) | (with_reducible refine below_drewN ?_ _) | ((refine Below.trans ?_ (Below.mono (by with_reducible assumption) ?_)); rotate_left; · (first | omega | (simp; done) | (simp; omega) | (simp at *; omega)))))⟩
  · obtain ⟨b1, b2, b3, b4⟩ := HB.out h3 h4
    have h3' := h3
    rw [h5] at h3'
    have h4' := h4
    rw [h6] at h4'
    have h7' : decide (l.hi - l.lo ≤ l.hy) = false := decide_eq_false (by omega)
    go_enter Try.func27, Try.ntmps27
    go_wp2_with (go_at_call 32; refine (bound_any _ _ _).mono ?_; rintro e w' ⟨rfl, rfl⟩)
    go_ret
    exact ⟨ret_int HE.out.symm, by (repeat (first | (with_reducible assumption) | (with_reducible exact Below.refl _ _) | ((with_reducible refine Below.setCell ?_ ?_ _); rotate_left; · (first | omega | (simp; done) | (simp; omega) | (simp at *; omega))) | ((with_reducible refine Below.alloc ?_ ?_ _); rotate_left; · (first | omega | (simp; done) | (simp; omega) | (simp at *; omega))) | (with_reducible refine Below.drew ?_) | (with_reducible refine below_drewN ?_ _) | ((refine Below.trans ?_ (Below.mono (by with_reducible assumption) ?_)); rotate_left; · (first | omega | (simp; done) | (simp; omega) | (simp at *; omega)))))⟩
theorem ok_iff (l : Lim) : l.Ok ↔ (0 ≤ l.hy ∧ l.hy ≤ 1099511627776 ∧ (-1099511627776 ≤ l.lo ∧ l.lo ≤ 1099511627776) ∧ (-1099511627776 ≤ l.hi ∧ l.hi ≤ 1099511627776) ∧ (l.ul = false → l.lo = 0) ∧ (l.uh = false → l.hi = 0) ∧ (l.ul = true → l.uh = true → l.hy < l.hi - l.lo)) := by
  unfold Lim.Ok bnd
  rw [decide_eq_true_iff, decide_eq_true_iff]
  rcases two_bools l.ul with h1 | h1 <;> rcases two_bools l.uh with h2 | h2 <;> simp only [h1, h2] <;> simp <;> omega

set_option maxHeartbeats 1000000 in
theorem lim_rcheck (l : Lim) (w : World) :
    Calls Try.prog 30 #[.agg l.cells] w fun e w' => e = .returned (.int .i64 l.err) ∧ Below w.heap.size w w' := by
  have hi := ok_iff l
  unfold Lim.cells
  have herr : ∀ n : Int, (n = 0 ∧ l.Ok ∨ n = 27 ∧ ¬ l.Ok) → l.err = n := by
    intro n h
    rcases h with ⟨rfl, h⟩ | ⟨rfl, h⟩
    · exact if_pos h
    · exact if_neg h
  by_cases h1 : l.hy < 0
  · have HE := Lib.hid (herr 27 (.inr ⟨rfl, fun h => by have := hi.1 h; omega⟩))
    clear hi herr
    go_enter Try.func30, Try.ntmps30
    go_wp2_with (go_at_call 33; refine (beyond_any _ _).mono ?_; rintro e w' ⟨rfl, rfl⟩)
    go_ret
    exact ⟨ret_int HE.out.symm, by (repeat (first | (with_reducible assumption) | (with_reducible exact Below.refl _ _) | ((with_reducible refine Below.setCell ?_ ?_ _); rotate_left; · (first | omega | (simp; done) | (simp; omega) | (simp at *; omega))) | ((with_reducible refine Below.alloc ?_ ?_ _); rotate_left; · (first | omega | (simp; done) | (simp; omega) | (simp at *; omega))) | (with_reducible refine Below.drew ?_) | (with_reducible refine below_drewN ?_ _) | ((refine Below.trans ?_ (Below.mono (by with_reducible assumption) ?_)); rotate_left; · (first | omega | (simp; done) | (simp; omega) | (simp at *; omega)))))⟩
  by_cases h2 : 1099511627776 < l.hy
  · have HE := Lib.hid (herr 27 (.inr ⟨rfl, fun h => by have := hi.1 h; omega⟩))
    clear hi herr
    go_enter Try.func30, Try.ntmps30
    go_wp2_with (go_at_call 33; refine (beyond_any _ _).mono ?_; rintro e w' ⟨rfl, rfl⟩)
    go_ret
    exact ⟨ret_int HE.out.symm, by (repeat (first | (with_reducible assumption) | (with_reducible exact Below.refl _ _) | ((with_reducible refine Below.setCell ?_ ?_ _); rotate_left; · (first | omega | (simp; done) | (simp; omega) | (simp at *; omega))) | ((with_reducible refine Below.alloc ?_ ?_ _); rotate_left; · (first | omega | (simp; done) | (simp; omega) | (simp at *; omega))) | (with_reducible refine Below.drew ?_) | (with_reducible refine below_drewN ?_ _) | ((refine Below.trans ?_ (Below.mono (by with_reducible assumption) ?_)); rotate_left; · (first | omega | (simp; done) | (simp; omega) | (simp at *; omega)))))⟩
  by_cases h3 : l.lo < -1099511627776 ∨ 1099511627776 < l.lo
  · have HE := Lib.hid (herr 27 (.inr ⟨rfl, fun h => by have := hi.1 h; omega⟩))
    have b3 : bey l.lo = true := decide_eq_true h3
    clear hi herr h3
    go_enter Try.func30, Try.ntmps30
    go_wp2_with (go_at_call 33; refine (beyond_any _ _).mono ?_; rintro e w' ⟨rfl, rfl⟩)
    go_ret
    exact ⟨ret_int HE.out.symm, by (repeat (first | (with_reducible assumption) | (with_reducible exact Below.refl _ _) | ((with_reducible refine Below.setCell ?_ ?_ _); rotate_left; · (first | omega | (simp; done) | (simp; omega) | (simp at *; omega))) | ((with_reducible refine Below.alloc ?_ ?_ _); rotate_left; · (first | omega | (simp; done) | (simp; omega) | (simp at *; omega))) | (with_reducible refine Below.drew ?_) | (with_reducible refine below_drewN ?_ _) | ((refine Below.trans ?_ (Below.mono (by with_reducible assumption) ?_)); rotate_left; · (first | omega | (simp; done) | (simp; omega) | (simp at *; omega)))))⟩
  have b3 : bey l.lo = false := decide_eq_false h3
  by_cases h4 : l.hi < -1099511627776 ∨ 1099511627776 < l.hi
  · have HE := Lib.hid (herr 27 (.inr ⟨rfl, fun h => by have := hi.1 h; omega⟩))
    have b4 : bey l.hi = true := decide_eq_true h4
    clear hi herr h3 h4
    go_enter Try.func30, Try.ntmps30
    go_wp2_with (go_at_call 33; refine (beyond_any _ _).mono ?_; rintro e w' ⟨rfl, rfl⟩)
    go_ret
    exact ⟨ret_int HE.out.symm, by (repeat (first | (with_reducible assumption) | (with_reducible exact Below.refl _ _) | ((with_reducible refine Below.setCell ?_ ?_ _); rotate_left; · (first | omega | (simp; done) | (simp; omega) | (simp at *; omega))) | ((with_reducible refine Below.alloc ?_ ?_ _); rotate_left; · (first | omega | (simp; done) | (simp; omega) | (simp at *; omega))) | (with_reducible refine Below.drew ?_) | (with_reducible refine below_drewN ?_ _) | ((refine Below.trans ?_ (Below.mono (by with_reducible assumption) ?_)); rotate_left; · (first | omega | (simp; done) | (simp; omega) | (simp at *; omega)))))⟩
  have b4 : bey l.hi = false := decide_eq_false h4
  rcases two_bools l.ul with h5 | h5
  · rcases two_bools l.uh with h6 | h6
    · by_cases h7 : l.hi - l.lo ≤ l.hy
      · have HE := Lib.hid (herr 27 (.inr ⟨rfl, fun h => by have := (hi.1 h).2.2.2.2.2.2 h5 h6; omega⟩))
        have b1 : -1099511627776 ≤ l.lo ∧ l.lo ≤ 1099511627776 ∧ -1099511627776 ≤ l.hi ∧ l.hi ≤ 1099511627776 := by omega
        obtain ⟨b1, b2, b5, b6⟩ := b1
        clear hi herr h3 h4
        go_enter Try.func30, Try.ntmps30
        go_wp2_with (go_at_call 33; refine (beyond_any _ _).mono ?_; rintro e w' ⟨rfl, rfl⟩)
        go_ret
        exact ⟨ret_int HE.out.symm, by (repeat (first | (with_reducible assumption) | (with_reducible exact Below.refl _ _) | ((with_reducible refine Below.setCell ?_ ?_ _); rotate_left; · (first | omega | (simp; done) | (simp; omega) | (simp at *; omega))) | ((with_reducible refine Below.alloc ?_ ?_ _); rotate_left; · (first | omega | (simp; done) | (simp; omega) | (simp at *; omega))) | (with_reducible refine Below.drew ?_) | (with_reducible refine below_drewN ?_ _) | ((refine Below.trans ?_ (Below.mono (by with_reducible assumption) ?_)); rotate_left; · (first | omega | (simp; done) | (simp; omega) | (simp at *; omega)))))⟩
      · have HE := Lib.hid (herr 0 (.inl ⟨rfl, hi.2 ⟨by omega, by omega, by omega, by omega, (fun h => by rw [h5] at h; cases h), (fun h => by rw [h6] at h; cases h), fun _ _ => by omega⟩⟩))
        have b1 : -1099511627776 ≤ l.lo ∧ l.lo ≤ 1099511627776 ∧ -1099511627776 ≤ l.hi ∧ l.hi ≤ 1099511627776 := by omega
        obtain ⟨b1, b2, b5, b6⟩ := b1
        have h7' : decide (l.hi - l.lo ≤ l.hy) = false := decide_eq_false h7
        clear hi herr h3 h4
        go_enter Try.func30, Try.ntmps30
        go_wp2_with (go_at_call 33; refine (beyond_any _ _).mono ?_; rintro e w' ⟨rfl, rfl⟩)
        go_ret
        exact ⟨ret_int HE.out.symm, by (repeat (first | (with_reducible assumption) | (with_reducible exact Below.refl _ _) | ((with_reducible refine Below.setCell ?_ ?_ _); rotate_left; · (first | omega | (simp; done) | (simp; omega) | (simp at *; omega))) | ((with_reducible refine Below.alloc ?_ ?_ _); rotate_left; · (first | omega | (simp; done) | (simp; omega) | (simp at *; omega))) | (with_reducible refine Below.drew ?_) | (with_reducible refine below_drewN ?_ _) | ((refine Below.trans ?_ (Below.mono (by with_reducible assumption) ?_)); rotate_left; · (first | omega | (simp; done) | (simp; omega) | (simp at *; omega)))))⟩
    · by_cases h7 : l.hi = 0
      · have HE := Lib.hid (herr 0 (.inl ⟨rfl, hi.2 ⟨by omega, by omega, by omega, by omega, (fun h => by rw [h5] at h; cases h), fun _ => h7, fun _ h => by rw [h6] at h; cases h⟩⟩))
        have n7 : (l.hi != 0) = false := by rw [bne_eq_false_iff_eq]; exact h7
        clear hi herr h3 h4 h7
        go_enter Try.func30, Try.ntmps30
        go_wp2_with (go_at_call 33; refine (beyond_any _ _).mono ?_; rintro e w' ⟨rfl, rfl⟩)
        go_ret
        exact ⟨ret_int HE.out.symm, by (repeat (first | (with_reducible assumption) | (with_reducible exact Below.refl _ _) | ((with_reducible refine Below.setCell ?_ ?_ _); rotate_left; · (first | omega | (simp; done) | (simp; omega) | (simp at *; omega))) | ((with_reducible refine Below.alloc ?_ ?_ _); rotate_left; · (first | omega | (simp; done) | (simp; omega) | (simp at *; omega))) | (with_reducible refine Below.drew ?_) | (with_reducible refine below_drewN ?_ _) | ((refine Below.trans ?_ (Below.mono (by with_reducible assumption) ?_)); rotate_left; · (first | omega | (simp; done) | (simp; omega) | (simp at *; omega)))))⟩
      · have HE := Lib.hid (herr 27 (.inr ⟨rfl, fun h => h7 ((hi.1 h).2.2.2.2.2.1 h6)⟩))
        have n7 : (l.hi != 0) = true := by rw [bne_iff_ne]; exact h7
        clear hi herr h3 h4 h7
        go_enter Try.func30, Try.ntmps30
        go_wp2_with (go_at_call 33; refine (beyond_any _ _).mono ?_; rintro e w' ⟨rfl, rfl⟩)
        go_ret
        exact ⟨ret_int HE.out.symm, by (repeat (first | (with_reducible assumption) | (with_reducible exact Below.refl _ _) | ((with_reducible refine Below.setCell ?_ ?_ _); rotate_left; · (first | omega | (simp; done) | (simp; omega) | (simp at *; omega))) | ((with_reducible refine Below.alloc ?_ ?_ _); rotate_left; · (first | omega | (simp; done) | (simp; omega) | (simp at *; omega))) | (with_reducible refine Below.drew ?_) | (with_reducible refine below_drewN ?_ _) | ((refine Below.trans ?_ (Below.mono (by with_reducible assumption) ?_)); rotate_left; · (first | omega | (simp; done) | (simp; omega) | (simp at *; omega)))))⟩
  · by_cases h7 : l.lo = 0
    rotate_left
    · have HE := Lib.hid (herr 27 (.inr ⟨rfl, fun h => h7 ((hi.1 h).2.2.2.2.1 h5)⟩))
      have n7 : (l.lo != 0) = true := by rw [bne_iff_ne]; exact h7
      clear hi herr h3 h4 h7
      go_enter Try.func30, Try.ntmps30
      go_wp2_with (go_at_call 33; refine (beyond_any _ _).mono ?_; rintro e w' ⟨rfl, rfl⟩)
      go_ret
      exact ⟨ret_int HE.out.symm, by (repeat (first | (with_reducible assumption) | (with_reducible exact Below.refl _ _) | ((with_reducible refine Below.setCell ?_ ?_ _); rotate_left; · (first | omega | (simp; done) | (simp; omega) | (simp at *; omega))) | ((with_reducible refine Below.alloc ?_ ?_ _); rotate_left; · (first | omega | (simp; done) | (simp; omega) | (simp at *; omega))) | (with_reducible refine Below.drew ?_) | (with_reducible refine below_drewN ?_ _) | ((refine Below.trans ?_ (Below.mono (by with_reducible assumption) ?_)); rotate_left; · (first | omega | (simp; done) | (simp; omega) | (simp at *; omega)))))⟩
    have n7 : (l.lo != 0) = false := by rw [bne_eq_false_iff_eq]; exact h7
    rcases two_bools l.uh with h6 | h6
    · have HE := Lib.hid (herr 0 (.inl ⟨rfl, hi.2 ⟨by omega, by omega, by omega, by omega, fun _ => h7, (fun h => by rw [h6] at h; cases h), fun h => by rw [h5] at h; cases h⟩⟩))
      clear hi herr h3 h4 h7
      go_enter Try.func30, Try.ntmps30
      go_wp2_with (go_at_call 33; refine (beyond_any _ _).mono ?_; rintro e w' ⟨rfl, rfl⟩)
      go_ret
      exact ⟨ret_int HE.out.symm, by (repeat (first | (with_reducible assumption) | (with_reducible exact Below.refl _ _) | ((with_reducible refine Below.setCell ?_ ?_ _); rotate_left; · (first | omega | (simp; done) | (simp; omega) | (simp at *; omega))) | ((with_reducible refine Below.alloc ?_ ?_ _); rotate_left; · (first | omega | (simp; done) | (simp; omega) | (simp at *; omega))) | (with_reducible refine Below.drew ?_) | (with_reducible refine below_drewN ?_ _) | ((refine Below.trans ?_ (Below.mono (by with_reducible assumption) ?_)); rotate_left; · (first | omega | (simp; done) | (simp; omega) | (simp at *; omega)))))⟩
    · by_cases h8 : l.hi = 0
      · have HE := Lib.hid (herr 0 (.inl ⟨rfl, hi.2 ⟨by omega, by omega, by omega, by omega, fun _ => h7, fun _ => h8, fun h => by rw [h5] at h; cases h⟩⟩))
        have n8 : (l.hi != 0) = false := by rw [bne_eq_false_iff_eq]; exact h8
        clear hi herr h3 h4 h7 h8
        go_enter Try.func30, Try.ntmps30
        go_wp2_with (go_at_call 33; refine (beyond_any _ _).mono ?_; rintro e w' ⟨rfl, rfl⟩)
        go_ret
        exact ⟨ret_int HE.out.symm, by (repeat (first | (with_reducible assumption) | (with_reducible exact Below.refl _ _) | ((with_reducible refine Below.setCell ?_ ?_ _); rotate_left; · (first | omega | (simp; done) | (simp; omega) | (simp at *; omega))) | ((with_reducible refine Below.alloc ?_ ?_ _); rotate_left; · (first | omega | (simp; done) | (simp; omega) | (simp at *; omega))) | (with_reducible refine Below.drew ?_) | (with_reducible refine below_drewN ?_ _) | ((refine Below.trans ?_ (Below.mono (by with_reducible assumption) ?_)); rotate_left; · (first | omega | (simp; done) | (simp; omega) | (simp at *; omega)))))⟩
      · have HE := Lib.hid (herr 27 (.inr ⟨rfl, fun h => h8 ((hi.1 h).2.2.2.2.2.1 h6)⟩))
        have n8 : (l.hi != 0) = true := by rw [bne_iff_ne]; exact h8
        clear hi herr h3 h4 h7 h8
        go_enter Try.func30, Try.ntmps30
        go_wp2_with (go_at_call 33; refine (beyond_any _ _).mono ?_; rintro e w' ⟨rfl, rfl⟩)
        go_ret
        exact ⟨ret_int HE.out.symm, by (repeat (first | (with_reducible assumption) | (with_reducible exact Below.refl _ _) | ((with_reducible refine Below.setCell ?_ ?_ _); rotate_left; · (first | omega | (simp; done) | (simp; omega) | (simp at *; omega))) | ((with_reducible refine Below.alloc ?_ ?_ _); rotate_left; · (first | omega | (simp; done) | (simp; omega) | (simp at *; omega))) | (with_reducible refine Below.drew ?_) | (with_reducible refine below_drewN ?_ _) | ((refine Below.trans ?_ (Below.mono (by with_reducible assumption) ?_)); rotate_left; · (first | omega | (simp; done) | (simp; omega) | (simp at *; omega)))))⟩
structure Band where
  dead : Int
  quiet : Int
deriving DecidableEq
def bandErr (b : Band) : Int := if b.dead < 0 ∨ 1099511627776 < b.dead ∨ b.quiet < 0 ∨ 1099511627776 < b.quiet then 26 else 0
theorem band_check (b : Band) (w : World) :
    Calls Try.prog 26 #[.agg #[.int .i64 b.dead, .int .i64 b.quiet]] w fun e w' => e = .returned (.int .i64 (bandErr b)) ∧ Below w.heap.size w w' := by
  go_enter Try.func26, Try.ntmps26
  go_wp2
  all_goals (go_ret; exact ⟨ret_int (by unfold bandErr; first | (rw [if_pos (by omega)]) | (rw [if_neg (by omega)])), by (repeat (first | (with_reducible assumption) | (with_reducible exact Below.refl _ _) | ((with_reducible refine Below.setCell ?_ ?_ _); rotate_left; · (first | omega | (simp; done) | (simp; omega) | (simp at *; omega))) | ((with_reducible refine Below.alloc ?_ ?_ _); rotate_left; · (first | omega | (simp; done) | (simp; omega) | (simp at *; omega))) | (with_reducible refine Below.drew ?_) | (with_reducible refine below_drewN ?_ _) | ((refine Below.trans ?_ (Below.mono (by with_reducible assumption) ?_)); rotate_left; · (first | omega | (simp; done) | (simp; omega) | (simp at *; omega)))))⟩)
theorem band_rcheck (b : Band) (w : World) :
    Calls Try.prog 29 #[.agg #[.int .i64 b.dead, .int .i64 b.quiet]] w fun e w' => e = .returned (.int .i64 (bandErr b)) ∧ Below w.heap.size w w' := by
  go_enter Try.func29, Try.ntmps29
  go_wp2
  all_goals (go_ret; exact ⟨ret_int (by unfold bandErr; first | (rw [if_pos (by omega)]) | (rw [if_neg (by omega)])), by (repeat (first | (with_reducible assumption) | (with_reducible exact Below.refl _ _) | ((with_reducible refine Below.setCell ?_ ?_ _); rotate_left; · (first | omega | (simp; done) | (simp; omega) | (simp at *; omega))) | ((with_reducible refine Below.alloc ?_ ?_ _); rotate_left; · (first | omega | (simp; done) | (simp; omega) | (simp at *; omega))) | (with_reducible refine Below.drew ?_) | (with_reducible refine below_drewN ?_ _) | ((refine Below.trans ?_ (Below.mono (by with_reducible assumption) ?_)); rotate_left; · (first | omega | (simp; done) | (simp; omega) | (simp at *; omega)))))⟩)

end Go.Proofs.Ythnhholpkomdhaa
