/-
  What is proved here: what is wrong with a record, as the reference tells it (chapter 11). Conditions: a tag's length.
-/
import Derived.Test.YtognidoohinipaaRecCheck
namespace Go.Proofs.Ytognidoohinipaa
open Go.RowKit Go.Deep

theorem rname_is {g : ByteArray} (b : Bool) (w : World) (h : nameB g = b) (hg : g.size ≤ 9223372036854775807) :
    Calls Try.prog 28 #[.string g] w fun e w' => e = .returned (.bool b) ∧ w = w' := by
  subst h
  exact rname_any g w hg
theorem tagged_1 (w : World) : Calls Try.prog 23 #[.int .i64 1] w fun e w' => e = .returned (.bool true) ∧ w = w' := by
  go_enter Try.func23, Try.ntmps23
  go_wp2
  go_ret
  exact ⟨rfl, rfl⟩
theorem tagged_2 (w : World) : Calls Try.prog 23 #[.int .i64 2] w fun e w' => e = .returned (.bool true) ∧ w = w' := by
  go_enter Try.func23, Try.ntmps23
  go_wp2
  go_ret
  exact ⟨rfl, rfl⟩
theorem tagged_3 (w : World) : Calls Try.prog 23 #[.int .i64 3] w fun e w' => e = .returned (.bool false) ∧ w = w' := by
  go_enter Try.func23, Try.ntmps23
  go_wp2
  go_ret
  exact ⟨rfl, rfl⟩
theorem tagged_4 (w : World) : Calls Try.prog 23 #[.int .i64 4] w fun e w' => e = .returned (.bool false) ∧ w = w' := by
  go_enter Try.func23, Try.ntmps23
  go_wp2
  go_ret
  exact ⟨rfl, rfl⟩
theorem tagged_5 (w : World) : Calls Try.prog 23 #[.int .i64 5] w fun e w' => e = .returned (.bool false) ∧ w = w' := by
  go_enter Try.func23, Try.ntmps23
  go_wp2
  go_ret
  exact ⟨rfl, rfl⟩
theorem tagged_6 (w : World) : Calls Try.prog 23 #[.int .i64 6] w fun e w' => e = .returned (.bool false) ∧ w = w' := by
  go_enter Try.func23, Try.ntmps23
  go_wp2
  go_ret
  exact ⟨rfl, rfl⟩
theorem valued_1 (w : World) : Calls Try.prog 25 #[.int .i64 1] w fun e w' => e = .returned (.bool true) ∧ w = w' := by
  go_enter Try.func25, Try.ntmps25
  go_wp2
  go_ret
  exact ⟨rfl, rfl⟩
theorem valued_2 (w : World) : Calls Try.prog 25 #[.int .i64 2] w fun e w' => e = .returned (.bool true) ∧ w = w' := by
  go_enter Try.func25, Try.ntmps25
  go_wp2
  go_ret
  exact ⟨rfl, rfl⟩
theorem valued_3 (w : World) : Calls Try.prog 25 #[.int .i64 3] w fun e w' => e = .returned (.bool true) ∧ w = w' := by
  go_enter Try.func25, Try.ntmps25
  go_wp2
  go_ret
  exact ⟨rfl, rfl⟩
theorem valued_4 (w : World) : Calls Try.prog 25 #[.int .i64 4] w fun e w' => e = .returned (.bool true) ∧ w = w' := by
  go_enter Try.func25, Try.ntmps25
  go_wp2
  go_ret
  exact ⟨rfl, rfl⟩
theorem valued_5 (w : World) : Calls Try.prog 25 #[.int .i64 5] w fun e w' => e = .returned (.bool false) ∧ w = w' := by
  go_enter Try.func25, Try.ntmps25
  go_wp2
  go_ret
  exact ⟨rfl, rfl⟩
theorem valued_6 (w : World) : Calls Try.prog 25 #[.int .i64 6] w fun e w' => e = .returned (.bool true) ∧ w = w' := by
  go_enter Try.func25, Try.ntmps25
  go_wp2
  go_ret
  exact ⟨rfl, rfl⟩
theorem named_1 (w : World) : Calls Try.prog 24 #[.int .i64 1] w fun e w' => e = .returned (.bool false) ∧ w = w' := by
  go_enter Try.func24, Try.ntmps24
  go_wp2
  go_ret
  exact ⟨rfl, rfl⟩
theorem named_2 (w : World) : Calls Try.prog 24 #[.int .i64 2] w fun e w' => e = .returned (.bool false) ∧ w = w' := by
  go_enter Try.func24, Try.ntmps24
  go_wp2
  go_ret
  exact ⟨rfl, rfl⟩
theorem named_3 (w : World) : Calls Try.prog 24 #[.int .i64 3] w fun e w' => e = .returned (.bool false) ∧ w = w' := by
  go_enter Try.func24, Try.ntmps24
  go_wp2
  go_ret
  exact ⟨rfl, rfl⟩
theorem named_4 (w : World) : Calls Try.prog 24 #[.int .i64 4] w fun e w' => e = .returned (.bool false) ∧ w = w' := by
  go_enter Try.func24, Try.ntmps24
  go_wp2
  go_ret
  exact ⟨rfl, rfl⟩
theorem named_5 (w : World) : Calls Try.prog 24 #[.int .i64 5] w fun e w' => e = .returned (.bool true) ∧ w = w' := by
  go_enter Try.func24, Try.ntmps24
  go_wp2
  go_ret
  exact ⟨rfl, rfl⟩
theorem named_6 (w : World) : Calls Try.prog 24 #[.int .i64 6] w fun e w' => e = .returned (.bool true) ∧ w = w' := by
  go_enter Try.func24, Try.ntmps24
  go_wp2
  go_ret
  exact ⟨rfl, rfl⟩
theorem value_1 (v : Int) (w : World) (b : Bool) (h : decide (Within v (-1099511627776) 1099511627776) = b) : Calls Try.prog 29 #[.int .i64 1, .int .i64 v] w fun e w' => e = .returned (.bool b) ∧ w = w' := by
  cases b
  · have h := of_decide_eq_false h
    have hc : v < -1099511627776 ∨ 1099511627776 < v := by unfold Within at h; omega
    clear h
    rcases hc with h | h
    all_goals
      go_enter Try.func29, Try.ntmps29
      go_wp2
      all_goals
        first
          | (exfalso; omega)
          | (go_ret
             exact ⟨by first | rfl | exact ret_bool (by simp; omega), rfl⟩)
  · obtain ⟨h1, h2⟩ := of_decide_eq_true h
    clear h
    go_enter Try.func29, Try.ntmps29
    go_wp2
    all_goals
      first
        | (exfalso; omega)
        | (go_ret
           exact ⟨by first | rfl | exact ret_bool (by simp; omega), rfl⟩)
theorem value_2 (v : Int) (w : World) (b : Bool) (h : decide (Within v (1) 4) = b) : Calls Try.prog 29 #[.int .i64 2, .int .i64 v] w fun e w' => e = .returned (.bool b) ∧ w = w' := by
  cases b
  · have h := of_decide_eq_false h
    have hc : v < 1 ∨ 4 < v := by unfold Within at h; omega
    clear h
    rcases hc with h | h
    all_goals
      go_enter Try.func29, Try.ntmps29
      go_wp2
      all_goals
        first
          | (exfalso; omega)
          | (go_ret
             exact ⟨by first | rfl | exact ret_bool (by simp; omega), rfl⟩)
  · obtain ⟨h1, h2⟩ := of_decide_eq_true h
    clear h
    go_enter Try.func29, Try.ntmps29
    go_wp2
    all_goals
      first
        | (exfalso; omega)
        | (go_ret
           exact ⟨by first | rfl | exact ret_bool (by simp; omega), rfl⟩)
theorem value_3 (v : Int) (w : World) (b : Bool) (h : decide (Within v (1) 1099511627776) = b) : Calls Try.prog 29 #[.int .i64 3, .int .i64 v] w fun e w' => e = .returned (.bool b) ∧ w = w' := by
  cases b
  · have h := of_decide_eq_false h
    have hc : v < 1 ∨ 1099511627776 < v := by unfold Within at h; omega
    clear h
    rcases hc with h | h
    all_goals
      go_enter Try.func29, Try.ntmps29
      go_wp2
      all_goals
        first
          | (exfalso; omega)
          | (go_ret
             exact ⟨by first | rfl | exact ret_bool (by simp; omega), rfl⟩)
  · obtain ⟨h1, h2⟩ := of_decide_eq_true h
    clear h
    go_enter Try.func29, Try.ntmps29
    go_wp2
    all_goals
      first
        | (exfalso; omega)
        | (go_ret
           exact ⟨by first | rfl | exact ret_bool (by simp; omega), rfl⟩)
theorem value_4 (v : Int) (w : World) (b : Bool) (h : decide (Within v (1) 1099511627776) = b) : Calls Try.prog 29 #[.int .i64 4, .int .i64 v] w fun e w' => e = .returned (.bool b) ∧ w = w' := by
  cases b
  · have h := of_decide_eq_false h
    have hc : v < 1 ∨ 1099511627776 < v := by unfold Within at h; omega
    clear h
    rcases hc with h | h
    all_goals
      go_enter Try.func29, Try.ntmps29
      go_wp2
      all_goals
        first
          | (exfalso; omega)
          | (go_ret
             exact ⟨by first | rfl | exact ret_bool (by simp; omega), rfl⟩)
  · obtain ⟨h1, h2⟩ := of_decide_eq_true h
    clear h
    go_enter Try.func29, Try.ntmps29
    go_wp2
    all_goals
      first
        | (exfalso; omega)
        | (go_ret
           exact ⟨by first | rfl | exact ret_bool (by simp; omega), rfl⟩)
theorem value_6 (v : Int) (w : World) (b : Bool) (h : decide (Within v (0) 255) = b) : Calls Try.prog 29 #[.int .i64 6, .int .i64 v] w fun e w' => e = .returned (.bool b) ∧ w = w' := by
  cases b
  · have h := of_decide_eq_false h
    have hc : v < 0 ∨ 255 < v := by unfold Within at h; omega
    clear h
    rcases hc with h | h
    all_goals
      go_enter Try.func29, Try.ntmps29
      go_wp2
      all_goals
        first
          | (exfalso; omega)
          | (go_ret
             exact ⟨by first | rfl | exact ret_bool (by simp; omega), rfl⟩)
  · obtain ⟨h1, h2⟩ := of_decide_eq_true h
    clear h
    go_enter Try.func29, Try.ntmps29
    go_wp2
    all_goals
      first
        | (exfalso; omega)
        | (go_ret
           exact ⟨by first | rfl | exact ret_bool (by simp; omega), rfl⟩)

set_option maxRecDepth 100000 in
set_option maxHeartbeats 2000000 in
theorem rcheck_1 (t : Int) (g : ByteArray) (v i : Int) (w : World) (hg : g.size ≤ 9223372036854775807) :
    Calls Try.prog 12 #[.agg #[.int .i64 1, .int .i64 t, .string g, .int .i64 v, .int .i64 i]] w fun e w' => e = .returned (.int .i64 (recErr ⟨1, t, g, v, i⟩)) ∧ Below w.heap.size w w' := by
  have hw : Within (Rec.mk 1 t g v i).k 1 6 := (⟨by decide, by decide⟩ : Within 1 1 6)
  have HW := Lib.hid hw
  clear hw
  by_cases i0 : i ≠ 0
  · have iz : (i != 0) = true := by simp [i0]
    have HF := Lib.hid (err_field HW.out (by unfold FieldBad tagK namK; dsimp only; omega))
    clear i0
    go_enter Try.func12, Try.ntmps12
    go_wp2_with (first | (go_at_call 23; (with_reducible refine (tagged_1 _).mono ?_); rintro e w' ⟨rfl, rfl⟩) | (go_at_call 25; (with_reducible refine (valued_1 _).mono ?_); rintro e w' ⟨rfl, rfl⟩) | (go_at_call 24; (with_reducible refine (named_1 _).mono ?_); rintro e w' ⟨rfl, rfl⟩) | fail)
    all_goals
      first
        | (exfalso; omega)
        | (go_ret
           exact ⟨ret_int (HF.out).symm, by (repeat (first | (with_reducible assumption) | (with_reducible exact Below.refl _ _) | ((with_reducible refine Below.setCell ?_ ?_ _); rotate_left; · (first | omega | (simp; done) | (simp; omega) | (simp at *; omega))) | ((with_reducible refine Below.alloc ?_ ?_ _); rotate_left; · (first | omega | (simp; done) | (simp; omega) | (simp at *; omega))) | (with_reducible refine Below.drew ?_) | (with_reducible refine below_drewN ?_ _) | ((refine Below.trans ?_ (Below.mono (by with_reducible assumption) ?_)); rotate_left; · (first | omega | (simp; done) | (simp; omega) | (simp at *; omega)))))⟩)
  have i1 : i = 0 := by omega
  subst i1
  clear i0
  have HNF := Lib.hid (show ¬ FieldBad (Rec.mk 1 t g v 0) by unfold FieldBad tagK namK; dsimp only; omega)
  by_cases ht : ¬ Within t 0 1099511627776
  · have HF := Lib.hid (err_time HW.out HNF.out ht)
    have ht2 : t < 0 ∨ 1099511627776 < t := by unfold Within at ht; omega
    clear ht
    rcases ht2 with ht | ht
    all_goals -- both
      go_enter Try.func12, Try.ntmps12
      go_wp2_with (first | (go_at_call 23; (with_reducible refine (tagged_1 _).mono ?_); rintro e w' ⟨rfl, rfl⟩) | (go_at_call 25; (with_reducible refine (valued_1 _).mono ?_); rintro e w' ⟨rfl, rfl⟩) | (go_at_call 24; (with_reducible refine (named_1 _).mono ?_); rintro e w' ⟨rfl, rfl⟩) | fail)
      all_goals
        first
          | (exfalso; omega)
          | (go_ret
             exact ⟨ret_int (HF.out).symm, by (repeat (first | (with_reducible assumption) | (with_reducible exact Below.refl _ _) | ((with_reducible refine Below.setCell ?_ ?_ _); rotate_left; · (first | omega | (simp; done) | (simp; omega) | (simp at *; omega))) | ((with_reducible refine Below.alloc ?_ ?_ _); rotate_left; · (first | omega | (simp; done) | (simp; omega) | (simp at *; omega))) | (with_reducible refine Below.drew ?_) | (with_reducible refine below_drewN ?_ _) | ((refine Below.trans ?_ (Below.mono (by with_reducible assumption) ?_)); rotate_left; · (first | omega | (simp; done) | (simp; omega) | (simp at *; omega)))))⟩)
  have ht := Decidable.not_not.1 ht
  have HT := Lib.hid ht
  obtain ⟨ht1, ht2⟩ := ht
  by_cases hn : nameB g = false
  · have HN := Lib.hid hn
    have HF := Lib.hid (err_name HW.out HNF.out HT.out (by unfold tagK; dsimp only; omega) hn)
    clear hn
    go_enter Try.func12, Try.ntmps12
    go_wp2_with (first | (go_at_call 23; (with_reducible refine (tagged_1 _).mono ?_); rintro e w' ⟨rfl, rfl⟩) | (go_at_call 25; (with_reducible refine (valued_1 _).mono ?_); rintro e w' ⟨rfl, rfl⟩) | (go_at_call 24; (with_reducible refine (named_1 _).mono ?_); rintro e w' ⟨rfl, rfl⟩) | (go_at_call 28; (with_reducible refine (rname_is false _ HN.out hg).mono ?_); rintro e w' ⟨rfl, rfl⟩) | fail)
    all_goals
      first
        | (exfalso; omega)
        | (go_ret
           exact ⟨ret_int (HF.out).symm, by (repeat (first | (with_reducible assumption) | (with_reducible exact Below.refl _ _) | ((with_reducible refine Below.setCell ?_ ?_ _); rotate_left; · (first | omega | (simp; done) | (simp; omega) | (simp at *; omega))) | ((with_reducible refine Below.alloc ?_ ?_ _); rotate_left; · (first | omega | (simp; done) | (simp; omega) | (simp at *; omega))) | (with_reducible refine Below.drew ?_) | (with_reducible refine below_drewN ?_ _) | ((refine Below.trans ?_ (Below.mono (by with_reducible assumption) ?_)); rotate_left; · (first | omega | (simp; done) | (simp; omega) | (simp at *; omega)))))⟩)
  have hn := eq_true_of_ne_false hn
  have HN := Lib.hid hn
  have HNN := Lib.hid (show ¬ (tagK (1 : Int) ∧ nameB g = false) from fun h => by rw [h.2] at hn; cases hn)
  clear hn
  by_cases hv : ¬ Within v (-1099511627776) 1099511627776
  · have HF := Lib.hid (err_range HW.out HNF.out HT.out HNN.out (.inl ⟨by dsimp only; omega, hv⟩))
    have hv := decide_eq_false hv
    go_enter Try.func12, Try.ntmps12
    go_wp2_with (first | (go_at_call 23; (with_reducible refine (tagged_1 _).mono ?_); rintro e w' ⟨rfl, rfl⟩) | (go_at_call 25; (with_reducible refine (valued_1 _).mono ?_); rintro e w' ⟨rfl, rfl⟩) | (go_at_call 24; (with_reducible refine (named_1 _).mono ?_); rintro e w' ⟨rfl, rfl⟩) | (go_at_call 29; (with_reducible refine (value_1 v _ false hv).mono ?_); rintro e w' ⟨rfl, rfl⟩) | (go_at_call 28; (with_reducible refine (rname_is true _ HN.out hg).mono ?_); rintro e w' ⟨rfl, rfl⟩) | fail)
    all_goals
      first
        | (exfalso; omega)
        | (go_ret
           exact ⟨ret_int (HF.out).symm, by (repeat (first | (with_reducible assumption) | (with_reducible exact Below.refl _ _) | ((with_reducible refine Below.setCell ?_ ?_ _); rotate_left; · (first | omega | (simp; done) | (simp; omega) | (simp at *; omega))) | ((with_reducible refine Below.alloc ?_ ?_ _); rotate_left; · (first | omega | (simp; done) | (simp; omega) | (simp at *; omega))) | (with_reducible refine Below.drew ?_) | (with_reducible refine below_drewN ?_ _) | ((refine Below.trans ?_ (Below.mono (by with_reducible assumption) ?_)); rotate_left; · (first | omega | (simp; done) | (simp; omega) | (simp at *; omega)))))⟩)
  have hv := Decidable.not_not.1 hv
  have HV := Lib.hid hv
  have hv := decide_eq_true hv
  have HF := Lib.hid (err_ok HW.out HNF.out HT.out HNN.out (fun h => h.elim (fun h => h.2 HV.out) (fun h => by have := h.1; unfold namK at this; dsimp only at this; omega)))
  go_enter Try.func12, Try.ntmps12
  go_wp2_with (first | (go_at_call 23; (with_reducible refine (tagged_1 _).mono ?_); rintro e w' ⟨rfl, rfl⟩) | (go_at_call 25; (with_reducible refine (valued_1 _).mono ?_); rintro e w' ⟨rfl, rfl⟩) | (go_at_call 24; (with_reducible refine (named_1 _).mono ?_); rintro e w' ⟨rfl, rfl⟩) | (go_at_call 29; (with_reducible refine (value_1 v _ true hv).mono ?_); rintro e w' ⟨rfl, rfl⟩) | (go_at_call 28; (with_reducible refine (rname_is true _ HN.out hg).mono ?_); rintro e w' ⟨rfl, rfl⟩) | fail)
  all_goals
    first
      | (exfalso; omega)
      | (go_ret
         exact ⟨ret_int (HF.out).symm, by (repeat (first | (with_reducible assumption) | (with_reducible exact Below.refl _ _) | ((with_reducible refine Below.setCell ?_ ?_ _); rotate_left; · (first | omega | (simp; done) | (simp; omega) | (simp at *; omega))) | ((with_reducible refine Below.alloc ?_ ?_ _); rotate_left; · (first | omega | (simp; done) | (simp; omega) | (simp at *; omega))) | (with_reducible refine Below.drew ?_) | (with_reducible refine below_drewN ?_ _) | ((refine Below.trans ?_ (Below.mono (by with_reducible assumption) ?_)); rotate_left; · (first | omega | (simp; done) | (simp; omega) | (simp at *; omega)))))⟩)

set_option maxRecDepth 100000 in
set_option maxHeartbeats 2000000 in
theorem rcheck_2 (t : Int) (g : ByteArray) (v i : Int) (w : World) (hg : g.size ≤ 9223372036854775807) :
    Calls Try.prog 12 #[.agg #[.int .i64 2, .int .i64 t, .string g, .int .i64 v, .int .i64 i]] w fun e w' => e = .returned (.int .i64 (recErr ⟨2, t, g, v, i⟩)) ∧ Below w.heap.size w w' := by
  have hw : Within (Rec.mk 2 t g v i).k 1 6 := (⟨by decide, by decide⟩ : Within 2 1 6)
  have HW := Lib.hid hw
  clear hw
  by_cases i0 : i ≠ 0
  · have iz : (i != 0) = true := by simp [i0]
    have HF := Lib.hid (err_field HW.out (by unfold FieldBad tagK namK; dsimp only; omega))
    clear i0
    go_enter Try.func12, Try.ntmps12
    go_wp2_with (first | (go_at_call 23; (with_reducible refine (tagged_2 _).mono ?_); rintro e w' ⟨rfl, rfl⟩) | (go_at_call 25; (with_reducible refine (valued_2 _).mono ?_); rintro e w' ⟨rfl, rfl⟩) | (go_at_call 24; (with_reducible refine (named_2 _).mono ?_); rintro e w' ⟨rfl, rfl⟩) | fail)
    all_goals
      first
        | (exfalso; omega)
        | (go_ret
           exact ⟨ret_int (HF.out).symm, by (repeat (first | (with_reducible assumption) | (with_reducible exact Below.refl _ _) | ((with_reducible refine Below.setCell ?_ ?_ _); rotate_left; · (first | omega | (simp; done) | (simp; omega) | (simp at *; omega))) | ((with_reducible refine Below.alloc ?_ ?_ _); rotate_left; · (first | omega | (simp; done) | (simp; omega) | (simp at *; omega))) | (with_reducible refine Below.drew ?_) | (with_reducible refine below_drewN ?_ _) | ((refine Below.trans ?_ (Below.mono (by with_reducible assumption) ?_)); rotate_left; · (first | omega | (simp; done) | (simp; omega) | (simp at *; omega)))))⟩)
  have i1 : i = 0 := by omega
  subst i1
  clear i0
  have HNF := Lib.hid (show ¬ FieldBad (Rec.mk 2 t g v 0) by unfold FieldBad tagK namK; dsimp only; omega)
  by_cases ht : ¬ Within t 0 1099511627776
  · have HF := Lib.hid (err_time HW.out HNF.out ht)
    have ht2 : t < 0 ∨ 1099511627776 < t := by unfold Within at ht; omega
    clear ht
    rcases ht2 with ht | ht
    all_goals -- both
      go_enter Try.func12, Try.ntmps12
      go_wp2_with (first | (go_at_call 23; (with_reducible refine (tagged_2 _).mono ?_); rintro e w' ⟨rfl, rfl⟩) | (go_at_call 25; (with_reducible refine (valued_2 _).mono ?_); rintro e w' ⟨rfl, rfl⟩) | (go_at_call 24; (with_reducible refine (named_2 _).mono ?_); rintro e w' ⟨rfl, rfl⟩) | fail)
      all_goals
        first
          | (exfalso; omega)
          | (go_ret
             exact ⟨ret_int (HF.out).symm, by (repeat (first | (with_reducible assumption) | (with_reducible exact Below.refl _ _) | ((with_reducible refine Below.setCell ?_ ?_ _); rotate_left; · (first | omega | (simp; done) | (simp; omega) | (simp at *; omega))) | ((with_reducible refine Below.alloc ?_ ?_ _); rotate_left; · (first | omega | (simp; done) | (simp; omega) | (simp at *; omega))) | (with_reducible refine Below.drew ?_) | (with_reducible refine below_drewN ?_ _) | ((refine Below.trans ?_ (Below.mono (by with_reducible assumption) ?_)); rotate_left; · (first | omega | (simp; done) | (simp; omega) | (simp at *; omega)))))⟩)
  have ht := Decidable.not_not.1 ht
  have HT := Lib.hid ht
  obtain ⟨ht1, ht2⟩ := ht
  by_cases hn : nameB g = false
  · have HN := Lib.hid hn
    have HF := Lib.hid (err_name HW.out HNF.out HT.out (by unfold tagK; dsimp only; omega) hn)
    clear hn
    go_enter Try.func12, Try.ntmps12
    go_wp2_with (first | (go_at_call 23; (with_reducible refine (tagged_2 _).mono ?_); rintro e w' ⟨rfl, rfl⟩) | (go_at_call 25; (with_reducible refine (valued_2 _).mono ?_); rintro e w' ⟨rfl, rfl⟩) | (go_at_call 24; (with_reducible refine (named_2 _).mono ?_); rintro e w' ⟨rfl, rfl⟩) | (go_at_call 28; (with_reducible refine (rname_is false _ HN.out hg).mono ?_); rintro e w' ⟨rfl, rfl⟩) | fail)
    all_goals
      first
        | (exfalso; omega)
        | (go_ret
           exact ⟨ret_int (HF.out).symm, by (repeat (first | (with_reducible assumption) | (with_reducible exact Below.refl _ _) | ((with_reducible refine Below.setCell ?_ ?_ _); rotate_left; · (first | omega | (simp; done) | (simp; omega) | (simp at *; omega))) | ((with_reducible refine Below.alloc ?_ ?_ _); rotate_left; · (first | omega | (simp; done) | (simp; omega) | (simp at *; omega))) | (with_reducible refine Below.drew ?_) | (with_reducible refine below_drewN ?_ _) | ((refine Below.trans ?_ (Below.mono (by with_reducible assumption) ?_)); rotate_left; · (first | omega | (simp; done) | (simp; omega) | (simp at *; omega)))))⟩)
  have hn := eq_true_of_ne_false hn
  have HN := Lib.hid hn
  have HNN := Lib.hid (show ¬ (tagK (2 : Int) ∧ nameB g = false) from fun h => by rw [h.2] at hn; cases hn)
  clear hn
  by_cases hv : ¬ Within v (1) 4
  · have HF := Lib.hid (err_range HW.out HNF.out HT.out HNN.out (.inl ⟨by dsimp only; omega, hv⟩))
    have hv := decide_eq_false hv
    go_enter Try.func12, Try.ntmps12
    go_wp2_with (first | (go_at_call 23; (with_reducible refine (tagged_2 _).mono ?_); rintro e w' ⟨rfl, rfl⟩) | (go_at_call 25; (with_reducible refine (valued_2 _).mono ?_); rintro e w' ⟨rfl, rfl⟩) | (go_at_call 24; (with_reducible refine (named_2 _).mono ?_); rintro e w' ⟨rfl, rfl⟩) | (go_at_call 29; (with_reducible refine (value_2 v _ false hv).mono ?_); rintro e w' ⟨rfl, rfl⟩) | (go_at_call 28; (with_reducible refine (rname_is true _ HN.out hg).mono ?_); rintro e w' ⟨rfl, rfl⟩) | fail)
    all_goals
      first
        | (exfalso; omega)
        | (go_ret
           exact ⟨ret_int (HF.out).symm, by (repeat (first | (with_reducible assumption) | (with_reducible exact Below.refl _ _) | ((with_reducible refine Below.setCell ?_ ?_ _); rotate_left; · (first | omega | (simp; done) | (simp; omega) | (simp at *; omega))) | ((with_reducible refine Below.alloc ?_ ?_ _); rotate_left; · (first | omega | (simp; done) | (simp; omega) | (simp at *; omega))) | (with_reducible refine Below.drew ?_) | (with_reducible refine below_drewN ?_ _) | ((refine Below.trans ?_ (Below.mono (by with_reducible assumption) ?_)); rotate_left; · (first | omega | (simp; done) | (simp; omega) | (simp at *; omega)))))⟩)
  have hv := Decidable.not_not.1 hv
  have HV := Lib.hid hv
  have hv := decide_eq_true hv
  have HF := Lib.hid (err_ok HW.out HNF.out HT.out HNN.out (fun h => h.elim (fun h => h.2 HV.out) (fun h => by have := h.1; unfold namK at this; dsimp only at this; omega)))
  go_enter Try.func12, Try.ntmps12
  go_wp2_with (first | (go_at_call 23; (with_reducible refine (tagged_2 _).mono ?_); rintro e w' ⟨rfl, rfl⟩) | (go_at_call 25; (with_reducible refine (valued_2 _).mono ?_); rintro e w' ⟨rfl, rfl⟩) | (go_at_call 24; (with_reducible refine (named_2 _).mono ?_); rintro e w' ⟨rfl, rfl⟩) | (go_at_call 29; (with_reducible refine (value_2 v _ true hv).mono ?_); rintro e w' ⟨rfl, rfl⟩) | (go_at_call 28; (with_reducible refine (rname_is true _ HN.out hg).mono ?_); rintro e w' ⟨rfl, rfl⟩) | fail)
  all_goals
    first
      | (exfalso; omega)
      | (go_ret
         exact ⟨ret_int (HF.out).symm, by (repeat (first | (with_reducible assumption) | (with_reducible exact Below.refl _ _) | ((with_reducible refine Below.setCell ?_ ?_ _); rotate_left; · (first | omega | (simp; done) | (simp; omega) | (simp at *; omega))) | ((with_reducible refine Below.alloc ?_ ?_ _); rotate_left; · (first | omega | (simp; done) | (simp; omega) | (simp at *; omega))) | (with_reducible refine Below.drew ?_) | (with_reducible refine below_drewN ?_ _) | ((refine Below.trans ?_ (Below.mono (by with_reducible assumption) ?_)); rotate_left; · (first | omega | (simp; done) | (simp; omega) | (simp at *; omega)))))⟩)

set_option maxRecDepth 100000 in
set_option maxHeartbeats 2000000 in
theorem rcheck_3 (t : Int) (g : ByteArray) (v i : Int) (w : World) (hg : g.size ≤ 9223372036854775807) :
    Calls Try.prog 12 #[.agg #[.int .i64 3, .int .i64 t, .string g, .int .i64 v, .int .i64 i]] w fun e w' => e = .returned (.int .i64 (recErr ⟨3, t, g, v, i⟩)) ∧ Below w.heap.size w w' := by
  have hw : Within (Rec.mk 3 t g v i).k 1 6 := (⟨by decide, by decide⟩ : Within 3 1 6)
  have HW := Lib.hid hw
  clear hw
  by_cases g0 : g.size ≠ 0
  · have gz := empty_no g0
    have gn : (0 : Int) < (g.size : Int) := by omega
    have gn2 : 0 < g.size := by omega
    have HF := Lib.hid (err_field HW.out (by unfold FieldBad tagK namK; dsimp only; omega))
    clear g0
    go_enter Try.func12, Try.ntmps12
    go_wp2_with (first | (go_at_call 23; (with_reducible refine (tagged_3 _).mono ?_); rintro e w' ⟨rfl, rfl⟩) | (go_at_call 25; (with_reducible refine (valued_3 _).mono ?_); rintro e w' ⟨rfl, rfl⟩) | (go_at_call 24; (with_reducible refine (named_3 _).mono ?_); rintro e w' ⟨rfl, rfl⟩) | fail)
    all_goals
      first
        | (exfalso; omega)
        | (go_ret
           exact ⟨ret_int (HF.out).symm, by (repeat (first | (with_reducible assumption) | (with_reducible exact Below.refl _ _) | ((with_reducible refine Below.setCell ?_ ?_ _); rotate_left; · (first | omega | (simp; done) | (simp; omega) | (simp at *; omega))) | ((with_reducible refine Below.alloc ?_ ?_ _); rotate_left; · (first | omega | (simp; done) | (simp; omega) | (simp at *; omega))) | (with_reducible refine Below.drew ?_) | (with_reducible refine below_drewN ?_ _) | ((refine Below.trans ?_ (Below.mono (by with_reducible assumption) ?_)); rotate_left; · (first | omega | (simp; done) | (simp; omega) | (simp at *; omega)))))⟩)
  have g1 : g.size = 0 := by omega
  have gz := empty_yes g1
  have gn : ¬ (0 : Int) < (g.size : Int) := by omega
  have gn2 : decide (0 < g.size) = false := by rw [decide_eq_false_iff_not]; omega
  have G1 := Lib.hid g1
  clear g0 g1
  by_cases i0 : i ≠ 0
  · have iz : (i != 0) = true := by simp [i0]
    have HF := Lib.hid (err_field HW.out (by unfold FieldBad tagK namK; dsimp only; omega))
    clear i0
    go_enter Try.func12, Try.ntmps12
    go_wp2_with (first | (go_at_call 23; (with_reducible refine (tagged_3 _).mono ?_); rintro e w' ⟨rfl, rfl⟩) | (go_at_call 25; (with_reducible refine (valued_3 _).mono ?_); rintro e w' ⟨rfl, rfl⟩) | (go_at_call 24; (with_reducible refine (named_3 _).mono ?_); rintro e w' ⟨rfl, rfl⟩) | fail)
    all_goals
      first
        | (exfalso; omega)
        | (go_ret
           exact ⟨ret_int (HF.out).symm, by (repeat (first | (with_reducible assumption) | (with_reducible exact Below.refl _ _) | ((with_reducible refine Below.setCell ?_ ?_ _); rotate_left; · (first | omega | (simp; done) | (simp; omega) | (simp at *; omega))) | ((with_reducible refine Below.alloc ?_ ?_ _); rotate_left; · (first | omega | (simp; done) | (simp; omega) | (simp at *; omega))) | (with_reducible refine Below.drew ?_) | (with_reducible refine below_drewN ?_ _) | ((refine Below.trans ?_ (Below.mono (by with_reducible assumption) ?_)); rotate_left; · (first | omega | (simp; done) | (simp; omega) | (simp at *; omega)))))⟩)
  have i1 : i = 0 := by omega
  subst i1
  clear i0
  have HNF := Lib.hid (show ¬ FieldBad (Rec.mk 3 t g v 0) by have := G1.out; unfold FieldBad tagK namK; dsimp only; omega)
  by_cases ht : ¬ Within t 0 1099511627776
  · have HF := Lib.hid (err_time HW.out HNF.out ht)
    have ht2 : t < 0 ∨ 1099511627776 < t := by unfold Within at ht; omega
    clear ht
    rcases ht2 with ht | ht
    all_goals -- both
      go_enter Try.func12, Try.ntmps12
      go_wp2_with (first | (go_at_call 23; (with_reducible refine (tagged_3 _).mono ?_); rintro e w' ⟨rfl, rfl⟩) | (go_at_call 25; (with_reducible refine (valued_3 _).mono ?_); rintro e w' ⟨rfl, rfl⟩) | (go_at_call 24; (with_reducible refine (named_3 _).mono ?_); rintro e w' ⟨rfl, rfl⟩) | fail)
      all_goals
        first
          | (exfalso; omega)
          | (go_ret
             exact ⟨ret_int (HF.out).symm, by (repeat (first | (with_reducible assumption) | (with_reducible exact Below.refl _ _) | ((with_reducible refine Below.setCell ?_ ?_ _); rotate_left; · (first | omega | (simp; done) | (simp; omega) | (simp at *; omega))) | ((with_reducible refine Below.alloc ?_ ?_ _); rotate_left; · (first | omega | (simp; done) | (simp; omega) | (simp at *; omega))) | (with_reducible refine Below.drew ?_) | (with_reducible refine below_drewN ?_ _) | ((refine Below.trans ?_ (Below.mono (by with_reducible assumption) ?_)); rotate_left; · (first | omega | (simp; done) | (simp; omega) | (simp at *; omega)))))⟩)
  have ht := Decidable.not_not.1 ht
  have HT := Lib.hid ht
  obtain ⟨ht1, ht2⟩ := ht
  have HNN := Lib.hid (show ¬ (tagK (3 : Int) ∧ nameB g = false) from fun h => by have := h.1; unfold tagK at this; omega)
  by_cases hv : ¬ Within v (1) 1099511627776
  · have HF := Lib.hid (err_range HW.out HNF.out HT.out HNN.out (.inl ⟨by dsimp only; omega, hv⟩))
    have hv := decide_eq_false hv
    go_enter Try.func12, Try.ntmps12
    go_wp2_with (first | (go_at_call 23; (with_reducible refine (tagged_3 _).mono ?_); rintro e w' ⟨rfl, rfl⟩) | (go_at_call 25; (with_reducible refine (valued_3 _).mono ?_); rintro e w' ⟨rfl, rfl⟩) | (go_at_call 24; (with_reducible refine (named_3 _).mono ?_); rintro e w' ⟨rfl, rfl⟩) | (go_at_call 29; (with_reducible refine (value_3 v _ false hv).mono ?_); rintro e w' ⟨rfl, rfl⟩) | fail)
    all_goals
      first
        | (exfalso; omega)
        | (go_ret
           exact ⟨ret_int (HF.out).symm, by (repeat (first | (with_reducible assumption) | (with_reducible exact Below.refl _ _) | ((with_reducible refine Below.setCell ?_ ?_ _); rotate_left; · (first | omega | (simp; done) | (simp; omega) | (simp at *; omega))) | ((with_reducible refine Below.alloc ?_ ?_ _); rotate_left; · (first | omega | (simp; done) | (simp; omega) | (simp at *; omega))) | (with_reducible refine Below.drew ?_) | (with_reducible refine below_drewN ?_ _) | ((refine Below.trans ?_ (Below.mono (by with_reducible assumption) ?_)); rotate_left; · (first | omega | (simp; done) | (simp; omega) | (simp at *; omega)))))⟩)
  have hv := Decidable.not_not.1 hv
  have HV := Lib.hid hv
  have hv := decide_eq_true hv
  have HF := Lib.hid (err_ok HW.out HNF.out HT.out HNN.out (fun h => h.elim (fun h => h.2 HV.out) (fun h => by have := h.1; unfold namK at this; dsimp only at this; omega)))
  go_enter Try.func12, Try.ntmps12
  go_wp2_with (first | (go_at_call 23; (with_reducible refine (tagged_3 _).mono ?_); rintro e w' ⟨rfl, rfl⟩) | (go_at_call 25; (with_reducible refine (valued_3 _).mono ?_); rintro e w' ⟨rfl, rfl⟩) | (go_at_call 24; (with_reducible refine (named_3 _).mono ?_); rintro e w' ⟨rfl, rfl⟩) | (go_at_call 29; (with_reducible refine (value_3 v _ true hv).mono ?_); rintro e w' ⟨rfl, rfl⟩) | fail)
  all_goals
    first
      | (exfalso; omega)
      | (go_ret
         exact ⟨ret_int (HF.out).symm, by (repeat (first | (with_reducible assumption) | (with_reducible exact Below.refl _ _) | ((with_reducible refine Below.setCell ?_ ?_ _); rotate_left; · (first | omega | (simp; done) | (simp; omega) | (simp at *; omega))) | ((with_reducible refine Below.alloc ?_ ?_ _); rotate_left; · (first | omega | (simp; done) | (simp; omega) | (simp at *; omega))) | (with_reducible refine Below.drew ?_) | (with_reducible refine below_drewN ?_ _) | ((refine Below.trans ?_ (Below.mono (by with_reducible assumption) ?_)); rotate_left; · (first | omega | (simp; done) | (simp; omega) | (simp at *; omega)))))⟩)

set_option maxRecDepth 100000 in
set_option maxHeartbeats 2000000 in
theorem rcheck_4 (t : Int) (g : ByteArray) (v i : Int) (w : World) (hg : g.size ≤ 9223372036854775807) :
    Calls Try.prog 12 #[.agg #[.int .i64 4, .int .i64 t, .string g, .int .i64 v, .int .i64 i]] w fun e w' => e = .returned (.int .i64 (recErr ⟨4, t, g, v, i⟩)) ∧ Below w.heap.size w w' := by
  have hw : Within (Rec.mk 4 t g v i).k 1 6 := (⟨by decide, by decide⟩ : Within 4 1 6)
  have HW := Lib.hid hw
  clear hw
  by_cases g0 : g.size ≠ 0
  · have gz := empty_no g0
    have gn : (0 : Int) < (g.size : Int) := by omega
    have gn2 : 0 < g.size := by omega
    have HF := Lib.hid (err_field HW.out (by unfold FieldBad tagK namK; dsimp only; omega))
    clear g0
    go_enter Try.func12, Try.ntmps12
    go_wp2_with (first | (go_at_call 23; (with_reducible refine (tagged_4 _).mono ?_); rintro e w' ⟨rfl, rfl⟩) | (go_at_call 25; (with_reducible refine (valued_4 _).mono ?_); rintro e w' ⟨rfl, rfl⟩) | (go_at_call 24; (with_reducible refine (named_4 _).mono ?_); rintro e w' ⟨rfl, rfl⟩) | fail)
    all_goals
      first
        | (exfalso; omega)
        | (go_ret
           exact ⟨ret_int (HF.out).symm, by (repeat (first | (with_reducible assumption) | (with_reducible exact Below.refl _ _) | ((with_reducible refine Below.setCell ?_ ?_ _); rotate_left; · (first | omega | (simp; done) | (simp; omega) | (simp at *; omega))) | ((with_reducible refine Below.alloc ?_ ?_ _); rotate_left; · (first | omega | (simp; done) | (simp; omega) | (simp at *; omega))) | (with_reducible refine Below.drew ?_) | (with_reducible refine below_drewN ?_ _) | ((refine Below.trans ?_ (Below.mono (by with_reducible assumption) ?_)); rotate_left; · (first | omega | (simp; done) | (simp; omega) | (simp at *; omega)))))⟩)
  have g1 : g.size = 0 := by omega
  have gz := empty_yes g1
  have gn : ¬ (0 : Int) < (g.size : Int) := by omega
  have gn2 : decide (0 < g.size) = false := by rw [decide_eq_false_iff_not]; omega
  have G1 := Lib.hid g1
  clear g0 g1
  by_cases i0 : i ≠ 0
  · have iz : (i != 0) = true := by simp [i0]
    have HF := Lib.hid (err_field HW.out (by unfold FieldBad tagK namK; dsimp only; omega))
    clear i0
    go_enter Try.func12, Try.ntmps12
    go_wp2_with (first | (go_at_call 23; (with_reducible refine (tagged_4 _).mono ?_); rintro e w' ⟨rfl, rfl⟩) | (go_at_call 25; (with_reducible refine (valued_4 _).mono ?_); rintro e w' ⟨rfl, rfl⟩) | (go_at_call 24; (with_reducible refine (named_4 _).mono ?_); rintro e w' ⟨rfl, rfl⟩) | fail)
    all_goals
      first
        | (exfalso; omega)
        | (go_ret
           exact ⟨ret_int (HF.out).symm, by (repeat (first | (with_reducible assumption) | (with_reducible exact Below.refl _ _) | ((with_reducible refine Below.setCell ?_ ?_ _); rotate_left; · (first | omega | (simp; done) | (simp; omega) | (simp at *; omega))) | ((with_reducible refine Below.alloc ?_ ?_ _); rotate_left; · (first | omega | (simp; done) | (simp; omega) | (simp at *; omega))) | (with_reducible refine Below.drew ?_) | (with_reducible refine below_drewN ?_ _) | ((refine Below.trans ?_ (Below.mono (by with_reducible assumption) ?_)); rotate_left; · (first | omega | (simp; done) | (simp; omega) | (simp at *; omega)))))⟩)
  have i1 : i = 0 := by omega
  subst i1
  clear i0
  have HNF := Lib.hid (show ¬ FieldBad (Rec.mk 4 t g v 0) by have := G1.out; unfold FieldBad tagK namK; dsimp only; omega)
  by_cases ht : ¬ Within t 0 1099511627776
  · have HF := Lib.hid (err_time HW.out HNF.out ht)
    have ht2 : t < 0 ∨ 1099511627776 < t := by unfold Within at ht; omega
    clear ht
    rcases ht2 with ht | ht
    all_goals -- both
      go_enter Try.func12, Try.ntmps12
      go_wp2_with (first | (go_at_call 23; (with_reducible refine (tagged_4 _).mono ?_); rintro e w' ⟨rfl, rfl⟩) | (go_at_call 25; (with_reducible refine (valued_4 _).mono ?_); rintro e w' ⟨rfl, rfl⟩) | (go_at_call 24; (with_reducible refine (named_4 _).mono ?_); rintro e w' ⟨rfl, rfl⟩) | fail)
      all_goals
        first
          | (exfalso; omega)
          | (go_ret
             exact ⟨ret_int (HF.out).symm, by (repeat (first | (with_reducible assumption) | (with_reducible exact Below.refl _ _) | ((with_reducible refine Below.setCell ?_ ?_ _); rotate_left; · (first | omega | (simp; done) | (simp; omega) | (simp at *; omega))) | ((with_reducible refine Below.alloc ?_ ?_ _); rotate_left; · (first | omega | (simp; done) | (simp; omega) | (simp at *; omega))) | (with_reducible refine Below.drew ?_) | (with_reducible refine below_drewN ?_ _) | ((refine Below.trans ?_ (Below.mono (by with_reducible assumption) ?_)); rotate_left; · (first | omega | (simp; done) | (simp; omega) | (simp at *; omega)))))⟩)
  have ht := Decidable.not_not.1 ht
  have HT := Lib.hid ht
  obtain ⟨ht1, ht2⟩ := ht
  have HNN := Lib.hid (show ¬ (tagK (4 : Int) ∧ nameB g = false) from fun h => by have := h.1; unfold tagK at this; omega)
  by_cases hv : ¬ Within v (1) 1099511627776
  · have HF := Lib.hid (err_range HW.out HNF.out HT.out HNN.out (.inl ⟨by dsimp only; omega, hv⟩))
    have hv := decide_eq_false hv
    go_enter Try.func12, Try.ntmps12
    go_wp2_with (first | (go_at_call 23; (with_reducible refine (tagged_4 _).mono ?_); rintro e w' ⟨rfl, rfl⟩) | (go_at_call 25; (with_reducible refine (valued_4 _).mono ?_); rintro e w' ⟨rfl, rfl⟩) | (go_at_call 24; (with_reducible refine (named_4 _).mono ?_); rintro e w' ⟨rfl, rfl⟩) | (go_at_call 29; (with_reducible refine (value_4 v _ false hv).mono ?_); rintro e w' ⟨rfl, rfl⟩) | fail)
    all_goals
      first
        | (exfalso; omega)
        | (go_ret
           exact ⟨ret_int (HF.out).symm, by (repeat (first | (with_reducible assumption) | (with_reducible exact Below.refl _ _) | ((with_reducible refine Below.setCell ?_ ?_ _); rotate_left; · (first | omega | (simp; done) | (simp; omega) | (simp at *; omega))) | ((with_reducible refine Below.alloc ?_ ?_ _); rotate_left; · (first | omega | (simp; done) | (simp; omega) | (simp at *; omega))) | (with_reducible refine Below.drew ?_) | (with_reducible refine below_drewN ?_ _) | ((refine Below.trans ?_ (Below.mono (by with_reducible assumption) ?_)); rotate_left; · (first | omega | (simp; done) | (simp; omega) | (simp at *; omega)))))⟩)
  have hv := Decidable.not_not.1 hv
  have HV := Lib.hid hv
  have hv := decide_eq_true hv
  have HF := Lib.hid (err_ok HW.out HNF.out HT.out HNN.out (fun h => h.elim (fun h => h.2 HV.out) (fun h => by have := h.1; unfold namK at this; dsimp only at this; omega)))
  go_enter Try.func12, Try.ntmps12
  go_wp2_with (first | (go_at_call 23; (with_reducible refine (tagged_4 _).mono ?_); rintro e w' ⟨rfl, rfl⟩) | (go_at_call 25; (with_reducible refine (valued_4 _).mono ?_); rintro e w' ⟨rfl, rfl⟩) | (go_at_call 24; (with_reducible refine (named_4 _).mono ?_); rintro e w' ⟨rfl, rfl⟩) | (go_at_call 29; (with_reducible refine (value_4 v _ true hv).mono ?_); rintro e w' ⟨rfl, rfl⟩) | fail)
  all_goals
    first
      | (exfalso; omega)
      | (go_ret
         exact ⟨ret_int (HF.out).symm, by (repeat (first | (with_reducible assumption) | (with_reducible exact Below.refl _ _) | ((with_reducible refine Below.setCell ?_ ?_ _); rotate_left; · (first | omega | (simp; done) | (simp; omega) | (simp at *; omega))) | ((with_reducible refine Below.alloc ?_ ?_ _); rotate_left; · (first | omega | (simp; done) | (simp; omega) | (simp at *; omega))) | (with_reducible refine Below.drew ?_) | (with_reducible refine below_drewN ?_ _) | ((refine Below.trans ?_ (Below.mono (by with_reducible assumption) ?_)); rotate_left; · (first | omega | (simp; done) | (simp; omega) | (simp at *; omega)))))⟩)

set_option maxRecDepth 100000 in
set_option maxHeartbeats 2000000 in
theorem rcheck_5 (t : Int) (g : ByteArray) (v i : Int) (w : World) (hg : g.size ≤ 9223372036854775807) :
    Calls Try.prog 12 #[.agg #[.int .i64 5, .int .i64 t, .string g, .int .i64 v, .int .i64 i]] w fun e w' => e = .returned (.int .i64 (recErr ⟨5, t, g, v, i⟩)) ∧ Below w.heap.size w w' := by
  have hw : Within (Rec.mk 5 t g v i).k 1 6 := (⟨by decide, by decide⟩ : Within 5 1 6)
  have HW := Lib.hid hw
  clear hw
  by_cases g0 : g.size ≠ 0
  · have gz := empty_no g0
    have gn : (0 : Int) < (g.size : Int) := by omega
    have gn2 : 0 < g.size := by omega
    have HF := Lib.hid (err_field HW.out (by unfold FieldBad tagK namK; dsimp only; omega))
    clear g0
    go_enter Try.func12, Try.ntmps12
    go_wp2_with (first | (go_at_call 23; (with_reducible refine (tagged_5 _).mono ?_); rintro e w' ⟨rfl, rfl⟩) | (go_at_call 25; (with_reducible refine (valued_5 _).mono ?_); rintro e w' ⟨rfl, rfl⟩) | (go_at_call 24; (with_reducible refine (named_5 _).mono ?_); rintro e w' ⟨rfl, rfl⟩) | fail)
    all_goals
      first
        | (exfalso; omega)
        | (go_ret
           exact ⟨ret_int (HF.out).symm, by (repeat (first | (with_reducible assumption) | (with_reducible exact Below.refl _ _) | ((with_reducible refine Below.setCell ?_ ?_ _); rotate_left; · (first | omega | (simp; done) | (simp; omega) | (simp at *; omega))) | ((with_reducible refine Below.alloc ?_ ?_ _); rotate_left; · (first | omega | (simp; done) | (simp; omega) | (simp at *; omega))) | (with_reducible refine Below.drew ?_) | (with_reducible refine below_drewN ?_ _) | ((refine Below.trans ?_ (Below.mono (by with_reducible assumption) ?_)); rotate_left; · (first | omega | (simp; done) | (simp; omega) | (simp at *; omega)))))⟩)
  have g1 : g.size = 0 := by omega
  have gz := empty_yes g1
  have gn : ¬ (0 : Int) < (g.size : Int) := by omega
  have gn2 : decide (0 < g.size) = false := by rw [decide_eq_false_iff_not]; omega
  have G1 := Lib.hid g1
  clear g0 g1
  by_cases v0 : v ≠ 0
  · have vz : (v != 0) = true := by simp [v0]
    have HF := Lib.hid (err_field HW.out (by unfold FieldBad tagK namK; dsimp only; omega))
    clear v0
    go_enter Try.func12, Try.ntmps12
    go_wp2_with (first | (go_at_call 23; (with_reducible refine (tagged_5 _).mono ?_); rintro e w' ⟨rfl, rfl⟩) | (go_at_call 25; (with_reducible refine (valued_5 _).mono ?_); rintro e w' ⟨rfl, rfl⟩) | (go_at_call 24; (with_reducible refine (named_5 _).mono ?_); rintro e w' ⟨rfl, rfl⟩) | fail)
    all_goals
      first
        | (exfalso; omega)
        | (go_ret
           exact ⟨ret_int (HF.out).symm, by (repeat (first | (with_reducible assumption) | (with_reducible exact Below.refl _ _) | ((with_reducible refine Below.setCell ?_ ?_ _); rotate_left; · (first | omega | (simp; done) | (simp; omega) | (simp at *; omega))) | ((with_reducible refine Below.alloc ?_ ?_ _); rotate_left; · (first | omega | (simp; done) | (simp; omega) | (simp at *; omega))) | (with_reducible refine Below.drew ?_) | (with_reducible refine below_drewN ?_ _) | ((refine Below.trans ?_ (Below.mono (by with_reducible assumption) ?_)); rotate_left; · (first | omega | (simp; done) | (simp; omega) | (simp at *; omega)))))⟩)
  have v1 : v = 0 := by omega
  subst v1
  clear v0
  have HNF := Lib.hid (show ¬ FieldBad (Rec.mk 5 t g 0 i) by have := G1.out; unfold FieldBad tagK namK; dsimp only; omega)
  by_cases ht : ¬ Within t 0 1099511627776
  · have HF := Lib.hid (err_time HW.out HNF.out ht)
    have ht2 : t < 0 ∨ 1099511627776 < t := by unfold Within at ht; omega
    clear ht
    rcases ht2 with ht | ht
    all_goals -- both
      go_enter Try.func12, Try.ntmps12
      go_wp2_with (first | (go_at_call 23; (with_reducible refine (tagged_5 _).mono ?_); rintro e w' ⟨rfl, rfl⟩) | (go_at_call 25; (with_reducible refine (valued_5 _).mono ?_); rintro e w' ⟨rfl, rfl⟩) | (go_at_call 24; (with_reducible refine (named_5 _).mono ?_); rintro e w' ⟨rfl, rfl⟩) | fail)
      all_goals
        first
          | (exfalso; omega)
          | (go_ret
             exact ⟨ret_int (HF.out).symm, by (repeat (first | (with_reducible assumption) | (with_reducible exact Below.refl _ _) | ((with_reducible refine Below.setCell ?_ ?_ _); rotate_left; · (first | omega | (simp; done) | (simp; omega) | (simp at *; omega))) | ((with_reducible refine Below.alloc ?_ ?_ _); rotate_left; · (first | omega | (simp; done) | (simp; omega) | (simp at *; omega))) | (with_reducible refine Below.drew ?_) | (with_reducible refine below_drewN ?_ _) | ((refine Below.trans ?_ (Below.mono (by with_reducible assumption) ?_)); rotate_left; · (first | omega | (simp; done) | (simp; omega) | (simp at *; omega)))))⟩)
  have ht := Decidable.not_not.1 ht
  have HT := Lib.hid ht
  obtain ⟨ht1, ht2⟩ := ht
  have HNN := Lib.hid (show ¬ (tagK (5 : Int) ∧ nameB g = false) from fun h => by have := h.1; unfold tagK at this; omega)
  by_cases hi : ¬ Within i 1 1099511627776
  · have HF := Lib.hid (err_range HW.out HNF.out HT.out HNN.out (.inr ⟨by unfold namK; dsimp only; omega, hi⟩))
    have hi2 : i < 1 ∨ 1099511627776 < i := by unfold Within at hi; omega
    clear hi
    rcases hi2 with hi | hi
    all_goals -- both
      go_enter Try.func12, Try.ntmps12
      go_wp2_with (first | (go_at_call 23; (with_reducible refine (tagged_5 _).mono ?_); rintro e w' ⟨rfl, rfl⟩) | (go_at_call 25; (with_reducible refine (valued_5 _).mono ?_); rintro e w' ⟨rfl, rfl⟩) | (go_at_call 24; (with_reducible refine (named_5 _).mono ?_); rintro e w' ⟨rfl, rfl⟩) | fail)
      all_goals
        first
          | (exfalso; omega)
          | (go_ret
             exact ⟨ret_int (HF.out).symm, by (repeat (first | (with_reducible assumption) | (with_reducible exact Below.refl _ _) | ((with_reducible refine Below.setCell ?_ ?_ _); rotate_left; · (first | omega | (simp; done) | (simp; omega) | (simp at *; omega))) | ((with_reducible refine Below.alloc ?_ ?_ _); rotate_left; · (first | omega | (simp; done) | (simp; omega) | (simp at *; omega))) | (with_reducible refine Below.drew ?_) | (with_reducible refine below_drewN ?_ _) | ((refine Below.trans ?_ (Below.mono (by with_reducible assumption) ?_)); rotate_left; · (first | omega | (simp; done) | (simp; omega) | (simp at *; omega)))))⟩)
  have hi := Decidable.not_not.1 hi
  have HI := Lib.hid hi
  obtain ⟨hi1, hi2⟩ := hi
  have HF := Lib.hid (err_ok HW.out HNF.out HT.out HNN.out (fun h => h.elim (fun h => absurd rfl h.1) (fun h => h.2 HI.out)))
  go_enter Try.func12, Try.ntmps12
  go_wp2_with (first | (go_at_call 23; (with_reducible refine (tagged_5 _).mono ?_); rintro e w' ⟨rfl, rfl⟩) | (go_at_call 25; (with_reducible refine (valued_5 _).mono ?_); rintro e w' ⟨rfl, rfl⟩) | (go_at_call 24; (with_reducible refine (named_5 _).mono ?_); rintro e w' ⟨rfl, rfl⟩) | fail)
  all_goals
    first
      | (exfalso; omega)
      | (go_ret
         exact ⟨ret_int (HF.out).symm, by (repeat (first | (with_reducible assumption) | (with_reducible exact Below.refl _ _) | ((with_reducible refine Below.setCell ?_ ?_ _); rotate_left; · (first | omega | (simp; done) | (simp; omega) | (simp at *; omega))) | ((with_reducible refine Below.alloc ?_ ?_ _); rotate_left; · (first | omega | (simp; done) | (simp; omega) | (simp at *; omega))) | (with_reducible refine Below.drew ?_) | (with_reducible refine below_drewN ?_ _) | ((refine Below.trans ?_ (Below.mono (by with_reducible assumption) ?_)); rotate_left; · (first | omega | (simp; done) | (simp; omega) | (simp at *; omega)))))⟩)

set_option maxRecDepth 100000 in
set_option maxHeartbeats 2000000 in
theorem rcheck_6 (t : Int) (g : ByteArray) (v i : Int) (w : World) (hg : g.size ≤ 9223372036854775807) :
    Calls Try.prog 12 #[.agg #[.int .i64 6, .int .i64 t, .string g, .int .i64 v, .int .i64 i]] w fun e w' => e = .returned (.int .i64 (recErr ⟨6, t, g, v, i⟩)) ∧ Below w.heap.size w w' := by
  have hw : Within (Rec.mk 6 t g v i).k 1 6 := (⟨by decide, by decide⟩ : Within 6 1 6)
  have HW := Lib.hid hw
  clear hw
  by_cases g0 : g.size ≠ 0
  · have gz := empty_no g0
    have gn : (0 : Int) < (g.size : Int) := by omega
    have gn2 : 0 < g.size := by omega
    have HF := Lib.hid (err_field HW.out (by unfold FieldBad tagK namK; dsimp only; omega))
    clear g0
    go_enter Try.func12, Try.ntmps12
    go_wp2_with (first | (go_at_call 23; (with_reducible refine (tagged_6 _).mono ?_); rintro e w' ⟨rfl, rfl⟩) | (go_at_call 25; (with_reducible refine (valued_6 _).mono ?_); rintro e w' ⟨rfl, rfl⟩) | (go_at_call 24; (with_reducible refine (named_6 _).mono ?_); rintro e w' ⟨rfl, rfl⟩) | fail)
    all_goals
      first
        | (exfalso; omega)
        | (go_ret
           exact ⟨ret_int (HF.out).symm, by (repeat (first | (with_reducible assumption) | (with_reducible exact Below.refl _ _) | ((with_reducible refine Below.setCell ?_ ?_ _); rotate_left; · (first | omega | (simp; done) | (simp; omega) | (simp at *; omega))) | ((with_reducible refine Below.alloc ?_ ?_ _); rotate_left; · (first | omega | (simp; done) | (simp; omega) | (simp at *; omega))) | (with_reducible refine Below.drew ?_) | (with_reducible refine below_drewN ?_ _) | ((refine Below.trans ?_ (Below.mono (by with_reducible assumption) ?_)); rotate_left; · (first | omega | (simp; done) | (simp; omega) | (simp at *; omega)))))⟩)
  have g1 : g.size = 0 := by omega
  have gz := empty_yes g1
  have gn : ¬ (0 : Int) < (g.size : Int) := by omega
  have gn2 : decide (0 < g.size) = false := by rw [decide_eq_false_iff_not]; omega
  have G1 := Lib.hid g1
  clear g0 g1
  have HNF := Lib.hid (show ¬ FieldBad (Rec.mk 6 t g v i) by have := G1.out; unfold FieldBad tagK namK; dsimp only; omega)
  by_cases ht : ¬ Within t 0 1099511627776
  · have HF := Lib.hid (err_time HW.out HNF.out ht)
    have ht2 : t < 0 ∨ 1099511627776 < t := by unfold Within at ht; omega
    clear ht
    rcases ht2 with ht | ht
    all_goals -- both
      go_enter Try.func12, Try.ntmps12
      go_wp2_with (first | (go_at_call 23; (with_reducible refine (tagged_6 _).mono ?_); rintro e w' ⟨rfl, rfl⟩) | (go_at_call 25; (with_reducible refine (valued_6 _).mono ?_); rintro e w' ⟨rfl, rfl⟩) | (go_at_call 24; (with_reducible refine (named_6 _).mono ?_); rintro e w' ⟨rfl, rfl⟩) | fail)
      all_goals
        first
          | (exfalso; omega)
          | (go_ret
             exact ⟨ret_int (HF.out).symm, by (repeat (first | (with_reducible assumption) | (with_reducible exact Below.refl _ _) | ((with_reducible refine Below.setCell ?_ ?_ _); rotate_left; · (first | omega | (simp; done) | (simp; omega) | (simp at *; omega))) | ((with_reducible refine Below.alloc ?_ ?_ _); rotate_left; · (first | omega | (simp; done) | (simp; omega) | (simp at *; omega))) | (with_reducible refine Below.drew ?_) | (with_reducible refine below_drewN ?_ _) | ((refine Below.trans ?_ (Below.mono (by with_reducible assumption) ?_)); rotate_left; · (first | omega | (simp; done) | (simp; omega) | (simp at *; omega)))))⟩)
  have ht := Decidable.not_not.1 ht
  have HT := Lib.hid ht
  obtain ⟨ht1, ht2⟩ := ht
  have HNN := Lib.hid (show ¬ (tagK (6 : Int) ∧ nameB g = false) from fun h => by have := h.1; unfold tagK at this; omega)
  by_cases hv : ¬ Within v (0) 255
  · have HF := Lib.hid (err_range HW.out HNF.out HT.out HNN.out (.inl ⟨by dsimp only; omega, hv⟩))
    have hv := decide_eq_false hv
    go_enter Try.func12, Try.ntmps12
    go_wp2_with (first | (go_at_call 23; (with_reducible refine (tagged_6 _).mono ?_); rintro e w' ⟨rfl, rfl⟩) | (go_at_call 25; (with_reducible refine (valued_6 _).mono ?_); rintro e w' ⟨rfl, rfl⟩) | (go_at_call 24; (with_reducible refine (named_6 _).mono ?_); rintro e w' ⟨rfl, rfl⟩) | (go_at_call 29; (with_reducible refine (value_6 v _ false hv).mono ?_); rintro e w' ⟨rfl, rfl⟩) | fail)
    all_goals
      first
        | (exfalso; omega)
        | (go_ret
           exact ⟨ret_int (HF.out).symm, by (repeat (first | (with_reducible assumption) | (with_reducible exact Below.refl _ _) | ((with_reducible refine Below.setCell ?_ ?_ _); rotate_left; · (first | omega | (simp; done) | (simp; omega) | (simp at *; omega))) | ((with_reducible refine Below.alloc ?_ ?_ _); rotate_left; · (first | omega | (simp; done) | (simp; omega) | (simp at *; omega))) | (with_reducible refine Below.drew ?_) | (with_reducible refine below_drewN ?_ _) | ((refine Below.trans ?_ (Below.mono (by with_reducible assumption) ?_)); rotate_left; · (first | omega | (simp; done) | (simp; omega) | (simp at *; omega)))))⟩)
  have hv := Decidable.not_not.1 hv
  have HV := Lib.hid hv
  have hv := decide_eq_true hv
  by_cases hi : ¬ Within i 1 1099511627776
  · have HF := Lib.hid (err_range HW.out HNF.out HT.out HNN.out (.inr ⟨by unfold namK; dsimp only; omega, hi⟩))
    have hi2 : i < 1 ∨ 1099511627776 < i := by unfold Within at hi; omega
    clear hi
    rcases hi2 with hi | hi
    all_goals -- both
      go_enter Try.func12, Try.ntmps12
      go_wp2_with (first | (go_at_call 23; (with_reducible refine (tagged_6 _).mono ?_); rintro e w' ⟨rfl, rfl⟩) | (go_at_call 25; (with_reducible refine (valued_6 _).mono ?_); rintro e w' ⟨rfl, rfl⟩) | (go_at_call 24; (with_reducible refine (named_6 _).mono ?_); rintro e w' ⟨rfl, rfl⟩) | (go_at_call 29; (with_reducible refine (value_6 v _ true hv).mono ?_); rintro e w' ⟨rfl, rfl⟩) | fail)
      all_goals
        first
          | (exfalso; omega)
          | (go_ret
             exact ⟨ret_int (HF.out).symm, by (repeat (first | (with_reducible assumption) | (with_reducible exact Below.refl _ _) | ((with_reducible refine Below.setCell ?_ ?_ _); rotate_left; · (first | omega | (simp; done) | (simp; omega) | (simp at *; omega))) | ((with_reducible refine Below.alloc ?_ ?_ _); rotate_left; · (first | omega | (simp; done) | (simp; omega) | (simp at *; omega))) | (with_reducible refine Below.drew ?_) | (with_reducible refine below_drewN ?_ _) | ((refine Below.trans ?_ (Below.mono (by with_reducible assumption) ?_)); rotate_left; · (first | omega | (simp; done) | (simp; omega) | (simp at *; omega)))))⟩)
  have hi := Decidable.not_not.1 hi
  have HI := Lib.hid hi
  obtain ⟨hi1, hi2⟩ := hi
  have HF := Lib.hid (err_ok HW.out HNF.out HT.out HNN.out (fun h => h.elim (fun h => h.2 HV.out) (fun h => h.2 HI.out)))
  go_enter Try.func12, Try.ntmps12
  go_wp2_with (first | (go_at_call 23; (with_reducible refine (tagged_6 _).mono ?_); rintro e w' ⟨rfl, rfl⟩) | (go_at_call 25; (with_reducible refine (valued_6 _).mono ?_); rintro e w' ⟨rfl, rfl⟩) | (go_at_call 24; (with_reducible refine (named_6 _).mono ?_); rintro e w' ⟨rfl, rfl⟩) | (go_at_call 29; (with_reducible refine (value_6 v _ true hv).mono ?_); rintro e w' ⟨rfl, rfl⟩) | fail)
  all_goals
    first
      | (exfalso; omega)
      | (go_ret
         exact ⟨ret_int (HF.out).symm, by (repeat (first | (with_reducible assumption) | (with_reducible exact Below.refl _ _) | ((with_reducible refine Below.setCell ?_ ?_ _); rotate_left; · (first | omega | (simp; done) | (simp; omega) | (simp at *; omega))) | ((with_reducible refine Below.alloc ?_ ?_ _); rotate_left; · (first | omega | (simp; done) | (simp; omega) | (simp at *; omega))) | (with_reducible refine Below.drew ?_) | (with_reducible refine below_drewN ?_ _) | ((refine Below.trans ?_ (Below.mono (by with_reducible assumption) ?_)); rotate_left; · (first | omega | (simp; done) | (simp; omega) | (simp at *; omega)))))⟩)

set_option maxRecDepth 100000 in
theorem rcheck_not (k t : Int) (g : ByteArray) (v i : Int) (w : World) (hk : ¬ Within k 1 6) :
    Calls Try.prog 12 #[.agg #[.int .i64 k, .int .i64 t, .string g, .int .i64 v, .int .i64 i]] w fun e w' => e = .returned (.int .i64 (recErr ⟨k, t, g, v, i⟩)) ∧ Below w.heap.size w w' := by
  have HF := Lib.hid (err_kind (r := ⟨k, t, g, v, i⟩) hk)
  have hk2 : k < 1 ∨ 6 < k := by unfold Within at hk; omega
  clear hk
  rcases hk2 with hk | hk
  all_goals
    go_enter Try.func12, Try.ntmps12
    go_wp2_with (first | (go_at_call 23; (with_reducible refine (tagged_1 _).mono ?_); rintro e w' ⟨rfl, rfl⟩) | (go_at_call 25; (with_reducible refine (valued_1 _).mono ?_); rintro e w' ⟨rfl, rfl⟩) | (go_at_call 24; (with_reducible refine (named_1 _).mono ?_); rintro e w' ⟨rfl, rfl⟩) | fail)
    all_goals
      first
        | (exfalso; omega)
        | (go_ret
           exact ⟨ret_int (HF.out).symm, by (repeat (first | (with_reducible assumption) | (with_reducible exact Below.refl _ _) | ((with_reducible refine Below.setCell ?_ ?_ _); rotate_left; · (first | omega | (simp; done) | (simp; omega) | (simp at *; omega))) | ((with_reducible refine Below.alloc ?_ ?_ _); rotate_left; · (first | omega | (simp; done) | (simp; omega) | (simp at *; omega))) | (with_reducible refine Below.drew ?_) | (with_reducible refine below_drewN ?_ _) | ((refine Below.trans ?_ (Below.mono (by with_reducible assumption) ?_)); rotate_left; · (first | omega | (simp; done) | (simp; omega) | (simp at *; omega)))))⟩)

theorem rcheck_any (r : Rec) (w : World) (hg : r.g.size ≤ 9223372036854775807) :
    Calls Try.prog 12 #[.agg r.cells] w fun e w' => e = .returned (.int .i64 (recErr r)) ∧ Below w.heap.size w w' := by
  obtain ⟨k, t, g, v, i⟩ := r
  show Calls Try.prog 12 #[.agg #[.int .i64 k, .int .i64 t, .string g, .int .i64 v, .int .i64 i]] w _
  by_cases hk : Within k 1 6
  · have h6 : k = 1 ∨ k = 2 ∨ k = 3 ∨ k = 4 ∨ k = 5 ∨ k = 6 := by unfold Within at hk; omega
    rcases h6 with rfl | rfl | rfl | rfl | rfl | rfl
    · exact rcheck_1 t g v i w hg
    · exact rcheck_2 t g v i w hg
    · exact rcheck_3 t g v i w hg
    · exact rcheck_4 t g v i w hg
    · exact rcheck_5 t g v i w hg
    · exact rcheck_6 t g v i w hg
  · exact rcheck_not k t g v i w hk
end Go.Proofs.Ytognidoohinipaa
