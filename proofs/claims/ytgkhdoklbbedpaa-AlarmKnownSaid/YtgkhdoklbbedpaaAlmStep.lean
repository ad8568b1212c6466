/-
  What is proved here: what Check, Step and Ack of package alarm, and of its reference, answer (chapter 8). Conditions: none beyond each theorem's own.
-/
import Derived.Test.YtgkhdoklbbedpaaAlmWalk
import Derived.Deep.DeepCutAuto
import Derived.Deep.RegionHeld3
namespace Go.Proofs.Ytgkhdoklbbedpaa
open Go.RowKit Go.Deep

theorem ok_cases (l : Lim) :
    (l.hy < 0 ∧ ¬ l.Ok) ∨ (¬ l.hy < 0 ∧ ((1099511627776 < l.hy ∧ ¬ l.Ok) ∨ (¬ 1099511627776 < l.hy ∧ ((bnd l.ul l.lo = false ∧ ¬ l.Ok) ∨ (bnd l.ul l.lo = true ∧ ((bnd l.uh l.hi = false ∧ ¬ l.Ok) ∨ (bnd l.uh l.hi = true ∧
      ((l.ul = false ∧ l.Ok) ∨ (l.ul = true ∧ ((l.uh = false ∧ l.Ok) ∨ (l.uh = true ∧ ((l.hi - l.lo ≤ l.hy ∧ ¬ l.Ok) ∨ (l.hy < l.hi - l.lo ∧ l.Ok))))))))))))) := by
  by_cases h1 : l.hy < 0
  · exact .inl ⟨h1, fun h => by have := h.1; omega⟩
  refine .inr ⟨h1, ?_⟩
  by_cases h2 : 1099511627776 < l.hy
  · exact .inl ⟨h2, fun h => by have := h.2.1; omega⟩
  refine .inr ⟨h2, ?_⟩
  rcases two_bools (bnd l.ul l.lo) with h3 | h3
  rotate_left
  · exact .inl ⟨h3, fun h => by have := h.2.2.1; rw [h3] at this; cases this⟩
  refine .inr ⟨h3, ?_⟩
  rcases two_bools (bnd l.uh l.hi) with h4 | h4
  rotate_left
  · exact .inl ⟨h4, fun h => by have := h.2.2.2.1; rw [h4] at this; cases this⟩
  refine .inr ⟨h4, ?_⟩
  rcases two_bools l.ul with h5 | h5
  rotate_left
  · exact .inl ⟨h5, by omega, by omega, h3, h4, fun h => by rw [h5] at h; cases h⟩
  refine .inr ⟨h5, ?_⟩
  rcases two_bools l.uh with h6 | h6
  rotate_left
  · exact .inl ⟨h6, by omega, by omega, h3, h4, fun _ h => by rw [h6] at h; cases h⟩
  refine .inr ⟨h6, ?_⟩
  by_cases h7 : l.hi - l.lo ≤ l.hy
  · exact .inl ⟨h7, fun h => by have := h.2.2.2.2 h5 h6; omega⟩
  · exact .inr ⟨by omega, by omega, by omega, h3, h4, fun _ _ => by omega⟩

set_option maxHeartbeats 1000000 in
theorem check_any (l : Lim) (w : World) :
    Calls Try.prog 13 #[.agg l.cells] w fun e w' => e = .returned (.int .i64 l.err) ∧ Below w.heap.size w w' := by
  have hbo := ok_bounds (l := l)
  unfold Lim.cells
  rcases ok_cases l with ⟨h1, hn⟩ | ⟨h1, ⟨h2, hn⟩ | ⟨h2, ⟨h3, hn⟩ | ⟨h3, ⟨h4, hn⟩ | ⟨h4, ⟨h5, hn⟩ | ⟨h5, ⟨h6, hn⟩ | ⟨h6, ⟨h7, hn⟩ | ⟨h7, hn⟩⟩⟩⟩⟩⟩⟩
  all_goals
    have HB := Lib.hid (show bnd l.ul l.lo = true → bnd l.uh l.hi = true → -1099511627776 ≤ l.lo ∧ l.lo ≤ 1099511627776 ∧ -1099511627776 ≤ l.hi ∧ l.hi ≤ 1099511627776 by
      intro a b
      unfold bnd at a b
      rw [decide_eq_true_iff] at a b
      omega)
    first | (have HE := Lib.hid (show l.err = 27 from if_neg hn)) | (have HE := Lib.hid (show l.err = 0 from if_pos hn))
    clear hbo hn
  · go_enter Try.func13, Try.ntmps13
    go_wp2
    go_ret
    exact ⟨ret_int HE.out.symm, by (repeat (first | (with_reducible assumption) | (with_reducible exact Below.refl _ _) | ((with_reducible refine Below.setCell ?_ ?_ _); rotate_left; · (first | omega | (simp; done) | (simp; omega) | (simp at *; omega))) | ((with_reducible refine Below.alloc ?_ ?_ _); rotate_left; · (first | omega | (simp; done) | (simp; omega) | (simp at *; omega))) | (with_reducible refine Below.drew ?_) | (with_reducible refine below_drewN ?_ _) | ((refine Below.trans ?_ (Below.mono (by with_reducible assumption) ?_)); rotate_left; · (first | omega | (simp; done) | (simp; omega) | (simp at *; omega)))))⟩
  · go_enter Try.func13, Try.ntmps13
    go_wp2
    go_ret
    exact ⟨ret_int HE.out.symm, by (repeat (first | (with_reducible assumption) | (with_reducible exact Below.refl _ _) | ((with_reducible refine Below.setCell ?_ ?_ _); rotate_left; · (first | omega | (simp; done) | (simp; omega) | (simp at *; omega))) | ((with_reducible refine Below.alloc ?_ ?_ _); rotate_left; · (first | omega | (simp; done) | (simp; omega) | (simp at *; omega))) | (with_reducible refine Below.drew ?_) | (with_reducible refine below_drewN ?_ _) | ((refine Below.trans ?_ (Below.mono (by with_reducible assumption) ?_)); rotate_left; · (first | omega | (simp; done) | (simp; omega) | (simp at *; omega)))))⟩
  · go_enter Try.func13, Try.ntmps13
    go_wp2_with (go_at_call 20; refine (bound_any _ _ _).mono ?_; rintro e w' ⟨rfl, rfl⟩)
    go_ret
    exact ⟨ret_int HE.out.symm, by (repeat (first | (with_reducible assumption) | (with_reducible exact Below.refl _ _) | ((with_reducible refine Below.setCell ?_ ?_ _); rotate_left; · (first | omega | (simp; done) | (simp; omega) | (simp at *; omega))) | ((with_reducible refine Below.alloc ?_ ?_ _); rotate_left; · (first | omega | (simp; done) | (simp; omega) | (simp at *; omega))) | (with_reducible refine Below.drew ?_) | (with_reducible refine below_drewN ?_ _) | ((refine Below.trans ?_ (Below.mono (by with_reducible assumption) ?_)); rotate_left; · (first | omega | (simp; done) | (simp; omega) | (simp at *; omega)))))⟩
  · go_enter Try.func13, Try.ntmps13
    go_wp2_with (go_at_call 20; refine (bound_any _ _ _).mono ?_; rintro e w' ⟨rfl, rfl⟩)
    go_ret
    exact ⟨ret_int HE.out.symm, by (repeat (first | (with_reducible assumption) | (with_reducible exact Below.refl _ _) | ((with_reducible refine Below.setCell ?_ ?_ _); rotate_left; · (first | omega | (simp; done) | (simp; omega) | (simp at *; omega))) | ((with_reducible refine Below.alloc ?_ ?_ _); rotate_left; · (first | omega | (simp; done) | (simp; omega) | (simp at *; omega))) | (with_reducible refine Below.drew ?_) | (with_reducible refine below_drewN ?_ _) | ((refine Below.trans ?_ (Below.mono (by with_reducible assumption) ?_)); rotate_left; · (first | omega | (simp; done) | (simp; omega) | (simp at *; omega)))))⟩
  · have h3' := h3
    rw [h5] at h3'
    go_enter Try.func13, Try.ntmps13
    go_wp2_with (go_at_call 20; refine (bound_any _ _ _).mono ?_; rintro e w' ⟨rfl, rfl⟩)
    go_ret
    exact ⟨ret_int HE.out.symm, by (repeat (first | (with_reducible assumption) | (with_reducible exact Below.refl _ _) | ((with_reducible refine Below.setCell ?_ ?_ _); rotate_left; · (first | omega | (simp; done) | (simp; omega) | (simp at *; omega))) | ((with_reducible refine Below.alloc ?_ ?_ _); rotate_left; · (first | omega | (simp; done) | (simp; omega) | (simp at *; omega))) | (with_reducible refine Below.drew ?_) | (with_reducible refine below_drewN ?_ _) | ((refine Below.trans ?_ (Below.mono (by with_reducible assumption) ?_)); rotate_left; · (first | omega | (simp; done) | (simp; omega) | (simp at *; omega)))))⟩
  · have h3' := h3
    rw [h5] at h3'
    have h4' := h4
    rw [h6] at h4'
    go_enter Try.func13, Try.ntmps13
    go_wp2_with (go_at_call 20; refine (bound_any _ _ _).mono ?_; rintro e w' ⟨rfl, rfl⟩)
    go_ret
    exact ⟨ret_int HE.out.symm, by (repeat (first | (with_reducible assumption) | (with_reducible exact Below.refl _ _) | ((with_reducible refine Below.setCell ?_ ?_ _); rotate_left; · (first | omega | (simp; done) | (simp; omega) | (simp at *; omega))) | ((with_reducible refine Below.alloc ?_ ?_ _); rotate_left; · (first | omega | (simp; done) | (simp; omega) | (simp at *; omega))) | (with_reducible refine Below.drew ?_) | (with_reducible refine below_drewN ?_ _) | ((refine Below.trans ?_ (Below.mono (by with_reducible assumption) ?_)); rotate_left; · (first | omega | (simp; done) | (simp; omega) | (simp at *; omega)))))⟩
  · obtain ⟨b1, b2, b3, b4⟩ := HB.out h3 h4
    have h3' := h3
    rw [h5] at h3'
    have h4' := h4
    rw [h6] at h4'
    go_enter Try.func13, Try.ntmps13
    go_wp2_with (go_at_call 20; refine (bound_any _ _ _).mono ?_; rintro e w' ⟨rfl, rfl⟩)
    go_ret
    exact ⟨ret_int HE.out.symm, by (repeat (first | (with_reducible assumption) | (with_reducible exact Below.refl _ _) | ((with_reducible refine Below.setCell ?_ ?_ _); rotate_left; · (first | omega | (simp; done) | (simp; omega) | (simp at *; omega))) | ((with_reducible refine Below.alloc ?_ ?_ _); rotate_left; · (first | omega | (simp; done) | (simp; omega) | (simp at *; omega))) | (with_reducible refine Below.drew ?_) | (with_reducible refine below_drewN ?_ _) | ((refine Below.trans ?_ (Below.mono (by with_reducible assumption) ?_)); rotate_left; · (first | omega | (simp; done) | (simp; omega) | (simp at *; omega)))))⟩
  · obtain ⟨b1, b2, b3, b4⟩ := HB.out h3 h4
    have h3' := h3
    rw [h5] at h3'
    have h4' := h4
    rw [h6] at h4'
    have h7' : decide (l.hi - l.lo ≤ l.hy) = false := decide_eq_false (by omega)
    go_enter Try.func13, Try.ntmps13
    go_wp2_with (go_at_call 20; refine (bound_any _ _ _).mono ?_; rintro e w' ⟨rfl, rfl⟩)
    go_ret
    exact ⟨ret_int HE.out.symm, by (repeat (first | (with_reducible assumption) | (with_reducible exact Below.refl _ _) | ((with_reducible refine Below.setCell ?_ ?_ _); rotate_left; · (first | omega | (simp; done) | (simp; omega) | (simp at *; omega))) | ((with_reducible refine Below.alloc ?_ ?_ _); rotate_left; · (first | omega | (simp; done) | (simp; omega) | (simp at *; omega))) | (with_reducible refine Below.drew ?_) | (with_reducible refine below_drewN ?_ _) | ((refine Below.trans ?_ (Below.mono (by with_reducible assumption) ?_)); rotate_left; · (first | omega | (simp; done) | (simp; omega) | (simp at *; omega)))))⟩
theorem ok_iff (l : Lim) : l.Ok ↔ (0 ≤ l.hy ∧ l.hy ≤ 1099511627776 ∧ (-1099511627776 ≤ l.lo ∧ l.lo ≤ 1099511627776) ∧ (-1099511627776 ≤ l.hi ∧ l.hi ≤ 1099511627776) ∧ (l.ul = false → l.lo = 0) ∧ (l.uh = false → l.hi = 0) ∧ (l.ul = true → l.uh = true → l.hy < l.hi - l.lo)) := by
  unfold Lim.Ok bnd
  rw [decide_eq_true_iff, decide_eq_true_iff]
  rcases two_bools l.ul with h1 | h1 <;> rcases two_bools l.uh with h2 | h2 <;> simp only [h1, h2] <;> simp <;> omega

set_option maxHeartbeats 1000000 in
theorem rcheck_any (l : Lim) (w : World) :
    Calls Try.prog 17 #[.agg l.cells] w fun e w' => e = .returned (.int .i64 l.err) ∧ Below w.heap.size w w' := by
  have hi := ok_iff l
  unfold Lim.cells
  have herr : ∀ n : Int, (n = 0 ∧ l.Ok ∨ n = 27 ∧ ¬ l.Ok) → l.err = n := by
    intro n h
    rcases h with ⟨rfl, h⟩ | ⟨rfl, h⟩
    · exact if_pos h
    · exact if_neg h
  by_cases h1 : l.hy < 0
  · have HE := Lib.hid (herr 27 (.inr ⟨rfl, fun h => by have := hi.1 h; omega⟩))
    clear hi herr
    go_enter Try.func17, Try.ntmps17
    go_wp2_with (go_at_call 24; refine (beyond_any _ _).mono ?_; rintro e w' ⟨rfl, rfl⟩)
    go_ret
    exact ⟨ret_int HE.out.symm, by (repeat (first | (with_reducible assumption) | (with_reducible exact Below.refl _ _) | ((with_reducible refine Below.setCell ?_ ?_ _); rotate_left; · (first | omega | (simp; done) | (simp; omega) | (simp at *; omega))) | ((with_reducible refine Below.alloc ?_ ?_ _); rotate_left; · (first | omega | (simp; done) | (simp; omega) | (simp at *; omega))) | (with_reducible refine Below.drew ?_) | (with_reducible refine below_drewN ?_ _) | ((refine Below.trans ?_ (Below.mono (by with_reducible assumption) ?_)); rotate_left; · (first | omega | (simp; done) | (simp; omega) | (simp at *; omega)))))⟩
  by_cases h2 : 1099511627776 < l.hy
  · have HE := Lib.hid (herr 27 (.inr ⟨rfl, fun h => by have := hi.1 h; omega⟩))
    clear hi herr
    go_enter Try.func17, Try.ntmps17
    go_wp2_with (go_at_call 24; refine (beyond_any _ _).mono ?_; rintro e w' ⟨rfl, rfl⟩)
    go_ret
    exact ⟨ret_int HE.out.symm, by (repeat (first | (with_reducible assumption) | (with_reducible exact Below.refl _ _) | ((with_reducible refine Below.setCell ?_ ?_ _); rotate_left; · (first | omega | (simp; done) | (simp; omega) | (simp at *; omega))) | ((with_reducible refine Below.alloc ?_ ?_ _); rotate_left; · (first | omega | (simp; done) | (simp; omega) | (simp at *; omega))) | (with_reducible refine Below.drew ?_) | (with_reducible refine below_drewN ?_ _) | ((refine Below.trans ?_ (Below.mono (by with_reducible assumption) ?_)); rotate_left; · (first | omega | (simp; done) | (simp; omega) | (simp at *; omega)))))⟩
  by_cases h3 : l.lo < -1099511627776 ∨ 1099511627776 < l.lo
  · have HE := Lib.hid (herr 27 (.inr ⟨rfl, fun h => by have := hi.1 h; omega⟩))
    have b3 : bey l.lo = true := decide_eq_true h3
    clear hi herr h3
    go_enter Try.func17, Try.ntmps17
    go_wp2_with (go_at_call 24; refine (beyond_any _ _).mono ?_; rintro e w' ⟨rfl, rfl⟩)
    go_ret
    exact ⟨ret_int HE.out.symm, by (repeat (first | (with_reducible assumption) | (with_reducible exact Below.refl _ _) | ((with_reducible refine Below.setCell ?_ ?_ _); rotate_left; · (first | omega | (simp; done) | (simp; omega) | (simp at *; omega))) | ((with_reducible refine Below.alloc ?_ ?_ _); rotate_left; · (first | omega | (simp; done) | (simp; omega) | (simp at *; omega))) | (with_reducible refine Below.drew ?_) | (with_reducible refine below_drewN ?_ _) | ((refine Below.trans ?_ (Below.mono (by with_reducible assumption) ?_)); rotate_left; · (first | omega | (simp; done) | (simp; omega) | (simp at *; omega)))))⟩
  have b3 : bey l.lo = false := decide_eq_false h3
  by_cases h4 : l.hi < -1099511627776 ∨ 1099511627776 < l.hi
  · have HE := Lib.hid (herr 27 (.inr ⟨rfl, fun h => by have := hi.1 h; omega⟩))
    have b4 : bey l.hi = true := decide_eq_true h4
    clear hi herr h3 h4
    go_enter Try.func17, Try.ntmps17
    go_wp2_with (go_at_call 24; refine (beyond_any _ _).mono ?_; rintro e w' ⟨rfl, rfl⟩)
    go_ret
    exact ⟨ret_int HE.out.symm, by (repeat (first | (with_reducible assumption) | (with_reducible exact Below.refl _ _) | ((with_reducible refine Below.setCell ?_ ?_ _); rotate_left; · (first | omega | (simp; done) | (simp; omega) | (simp at *; omega))) | ((with_reducible refine Below.alloc ?_ ?_ _); rotate_left; · (first | omega | (simp; done) | (simp; omega) | (simp at *; omega))) | (with_reducible refine Below.drew ?_) | (with_reducible refine below_drewN ?_ _) | ((refine Below.trans ?_ (Below.mono (by with_reducible assumption) ?_)); rotate_left; · (first | omega | (simp; done) | (simp; omega) | (simp at *; omega)))))⟩
  have b4 : bey l.hi = false := decide_eq_false h4
  rcases two_bools l.ul with h5 | h5
  · rcases two_bools l.uh with h6 | h6
    · by_cases h7 : l.hi - l.lo ≤ l.hy
      · have HE := Lib.hid (herr 27 (.inr ⟨rfl, fun h => by have := (hi.1 h).2.2.2.2.2.2 h5 h6; omega⟩))
        have b1 : -1099511627776 ≤ l.lo ∧ l.lo ≤ 1099511627776 ∧ -1099511627776 ≤ l.hi ∧ l.hi ≤ 1099511627776 := by omega
        obtain ⟨b1, b2, b5, b6⟩ := b1
        clear hi herr h3 h4
        go_enter Try.func17, Try.ntmps17
        go_wp2_with (go_at_call 24; refine (beyond_any _ _).mono ?_; rintro e w' ⟨rfl, rfl⟩)
        go_ret
        exact ⟨ret_int HE.out.symm, by (repeat (first | (with_reducible assumption) | (with_reducible exact Below.refl _ _) | ((with_reducible refine Below.setCell ?_ ?_ _); rotate_left; · (first | omega | (simp; done) | (simp; omega) | (simp at *; omega))) | ((with_reducible refine Below.alloc ?_ ?_ _); rotate_left; · (first | omega | (simp; done) | (simp; omega) | (simp at *; omega))) | (with_reducible refine Below.drew ?_) | (with_reducible refine below_drewN ?_ _) | ((refine Below.trans ?_ (Below.mono (by with_reducible assumption) ?_)); rotate_left; · (first | omega | (simp; done) | (simp; omega) | (simp at *; omega)))))⟩
      · have HE := Lib.hid (herr 0 (.inl ⟨rfl, hi.2 ⟨by omega, by omega, by omega, by omega, (fun h => by rw [h5] at h; cases h), (fun h => by rw [h6] at h; cases h), fun _ _ => by omega⟩⟩))
        have b1 : -1099511627776 ≤ l.lo ∧ l.lo ≤ 1099511627776 ∧ -1099511627776 ≤ l.hi ∧ l.hi ≤ 1099511627776 := by omega
        obtain ⟨b1, b2, b5, b6⟩ := b1
        have h7' : decide (l.hi - l.lo ≤ l.hy) = false := decide_eq_false h7
        clear hi herr h3 h4
        go_enter Try.func17, Try.ntmps17
        go_wp2_with (go_at_call 24; refine (beyond_any _ _).mono ?_; rintro e w' ⟨rfl, rfl⟩)
        go_ret
        exact ⟨ret_int HE.out.symm, by (repeat (first | (with_reducible assumption) | (with_reducible exact Below.refl _ _) | ((with_reducible refine Below.setCell ?_ ?_ _); rotate_left; · (first | omega | (simp; done) | (simp; omega) | (simp at *; omega))) | ((with_reducible refine Below.alloc ?_ ?_ _); rotate_left; · (first | omega | (simp; done) | (simp; omega) | (simp at *; omega))) | (with_reducible refine Below.drew ?_) | (with_reducible refine below_drewN ?_ _) | ((refine Below.trans ?_ (Below.mono (by with_reducible assumption) ?_)); rotate_left; · (first | omega | (simp; done) | (simp; omega) | (simp at *; omega)))))⟩
    · by_cases h7 : l.hi = 0
      · have HE := Lib.hid (herr 0 (.inl ⟨rfl, hi.2 ⟨by omega, by omega, by omega, by omega, (fun h => by rw [h5] at h; cases h), fun _ => h7, fun _ h => by rw [h6] at h; cases h⟩⟩))
        have n7 : (l.hi != 0) = false := by rw [bne_eq_false_iff_eq]; exact h7
        clear hi herr h3 h4 h7
        go_enter Try.func17, Try.ntmps17
        go_wp2_with (go_at_call 24; refine (beyond_any _ _).mono ?_; rintro e w' ⟨rfl, rfl⟩)
        go_ret
        exact ⟨ret_int HE.out.symm, by (repeat (first | (with_reducible assumption) | (with_reducible exact Below.refl _ _) | ((with_reducible refine Below.setCell ?_ ?_ _); rotate_left; · (first | omega | (simp; done) | (simp; omega) | (simp at *; omega))) | ((with_reducible refine Below.alloc ?_ ?_ _); rotate_left; · (first | omega | (simp; done) | (simp; omega) | (simp at *; omega))) | (with_reducible refine Below.drew ?_) | (with_reducible refine below_drewN ?_ _) | ((refine Below.trans ?_ (Below.mono (by with_reducible assumption) ?_)); rotate_left; · (first | omega | (simp; done) | (simp; omega) | (simp at *; omega)))))⟩
      · have HE := Lib.hid (herr 27 (.inr ⟨rfl, fun h => h7 ((hi.1 h).2.2.2.2.2.1 h6)⟩))
        have n7 : (l.hi != 0) = true := by rw [bne_iff_ne]; exact h7
        clear hi herr h3 h4 h7
        go_enter Try.func17, Try.ntmps17
        go_wp2_with (go_at_call 24; refine (beyond_any _ _).mono ?_; rintro e w' ⟨rfl, rfl⟩)
        go_ret
        exact ⟨ret_int HE.out.symm, by (repeat (first | (with_reducible assumption) | (with_reducible exact Below.refl _ _) | ((with_reducible refine Below.setCell ?_ ?_ _); rotate_left; · (first | omega | (simp; done) | (simp; omega) | (simp at *; omega))) | ((with_reducible refine Below.alloc ?_ ?_ _); rotate_left; · (first | omega | (simp; done) | (simp; omega) | (simp at *; omega))) | (with_reducible refine Below.drew ?_) | (with_reducible refine below_drewN ?_ _) | ((refine Below.trans ?_ (Below.mono (by with_reducible assumption) ?_)); rotate_left; · (first | omega | (simp; done) | (simp; omega) | (simp at *; omega)))))⟩
  · by_cases h7 : l.lo = 0
    rotate_left
    · have HE := Lib.hid (herr 27 (.inr ⟨rfl, fun h => h7 ((hi.1 h).2.2.2.2.1 h5)⟩))
      have n7 : (l.lo != 0) = true := by rw [bne_iff_ne]; exact h7
      clear hi herr h3 h4 h7
      go_enter Try.func17, Try.ntmps17
      go_wp2_with (go_at_call 24; refine (beyond_any _ _).mono ?_; rintro e w' ⟨rfl, rfl⟩)
      go_ret
      exact ⟨ret_int HE.out.symm, by (repeat (first | (with_reducible assumption) | (with_reducible exact Below.refl _ _) | ((with_reducible refine Below.setCell ?_ ?_ _); rotate_left; · (first | omega | (simp; done) | (simp; omega) | (simp at *; omega))) | ((with_reducible refine Below.alloc ?_ ?_ _); rotate_left; · (first | omega | (simp; done) | (simp; omega) | (simp at *; omega))) | (with_reducible refine Below.drew ?_) | (with_reducible refine below_drewN ?_ _) | ((refine Below.trans ?_ (Below.mono (by with_reducible assumption) ?_)); rotate_left; · (first | omega | (simp; done) | (simp; omega) | (simp at *; omega)))))⟩
    have n7 : (l.lo != 0) = false := by rw [bne_eq_false_iff_eq]; exact h7
    rcases two_bools l.uh with h6 | h6
    · have HE := Lib.hid (herr 0 (.inl ⟨rfl, hi.2 ⟨by omega, by omega, by omega, by omega, fun _ => h7, (fun h => by rw [h6] at h; cases h), fun h => by rw [h5] at h; cases h⟩⟩))
      clear hi herr h3 h4 h7
      go_enter Try.func17, Try.ntmps17
      go_wp2_with (go_at_call 24; refine (beyond_any _ _).mono ?_; rintro e w' ⟨rfl, rfl⟩)
      go_ret
      exact ⟨ret_int HE.out.symm, by (repeat (first | (with_reducible assumption) | (with_reducible exact Below.refl _ _) | ((with_reducible refine Below.setCell ?_ ?_ _); rotate_left; · (first | omega | (simp; done) | (simp; omega) | (simp at *; omega))) | ((with_reducible refine Below.alloc ?_ ?_ _); rotate_left; · (first | omega | (simp; done) | (simp; omega) | (simp at *; omega))) | (with_reducible refine Below.drew ?_) | (with_reducible refine below_drewN ?_ _) | ((refine Below.trans ?_ (Below.mono (by with_reducible assumption) ?_)); rotate_left; · (first | omega | (simp; done) | (simp; omega) | (simp at *; omega)))))⟩
    · by_cases h8 : l.hi = 0
      · have HE := Lib.hid (herr 0 (.inl ⟨rfl, hi.2 ⟨by omega, by omega, by omega, by omega, fun _ => h7, fun _ => h8, fun h => by rw [h5] at h; cases h⟩⟩))
        have n8 : (l.hi != 0) = false := by rw [bne_eq_false_iff_eq]; exact h8
        clear hi herr h3 h4 h7 h8
        go_enter Try.func17, Try.ntmps17
        go_wp2_with (go_at_call 24; refine (beyond_any _ _).mono ?_; rintro e w' ⟨rfl, rfl⟩)
        go_ret
        exact ⟨ret_int HE.out.symm, by (repeat (first | (with_reducible assumption) | (with_reducible exact Below.refl _ _) | ((with_reducible refine Below.setCell ?_ ?_ _); rotate_left; · (first | omega | (simp; done) | (simp; omega) | (simp at *; omega))) | ((with_reducible refine Below.alloc ?_ ?_ _); rotate_left; · (first | omega | (simp; done) | (simp; omega) | (simp at *; omega))) | (with_reducible refine Below.drew ?_) | (with_reducible refine below_drewN ?_ _) | ((refine Below.trans ?_ (Below.mono (by with_reducible assumption) ?_)); rotate_left; · (first | omega | (simp; done) | (simp; omega) | (simp at *; omega)))))⟩
      · have HE := Lib.hid (herr 27 (.inr ⟨rfl, fun h => h8 ((hi.1 h).2.2.2.2.2.1 h6)⟩))
        have n8 : (l.hi != 0) = true := by rw [bne_iff_ne]; exact h8
        clear hi herr h3 h4 h7 h8
        go_enter Try.func17, Try.ntmps17
        go_wp2_with (go_at_call 24; refine (beyond_any _ _).mono ?_; rintro e w' ⟨rfl, rfl⟩)
        go_ret
        exact ⟨ret_int HE.out.symm, by (repeat (first | (with_reducible assumption) | (with_reducible exact Below.refl _ _) | ((with_reducible refine Below.setCell ?_ ?_ _); rotate_left; · (first | omega | (simp; done) | (simp; omega) | (simp at *; omega))) | ((with_reducible refine Below.alloc ?_ ?_ _); rotate_left; · (first | omega | (simp; done) | (simp; omega) | (simp at *; omega))) | (with_reducible refine Below.drew ?_) | (with_reducible refine below_drewN ?_ _) | ((refine Below.trans ?_ (Below.mono (by with_reducible assumption) ?_)); rotate_left; · (first | omega | (simp; done) | (simp; omega) | (simp at *; omega)))))⟩
end Go.Proofs.Ytgkhdoklbbedpaa
