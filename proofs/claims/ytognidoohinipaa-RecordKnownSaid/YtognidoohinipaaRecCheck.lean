/-
  What is proved here: what is wrong with a record, as package record tells it (chapter 11). Conditions: a tag's length.
-/
import Derived.Test.YtognidoohinipaaRecLaws
namespace Go.Proofs.Ytognidoohinipaa
open Go.RowKit Go.Deep

theorem empty_yes {g : ByteArray} (h : g.size = 0) : (!g.toList.isEmpty) = false := by
  rw [ByteArray.toList_eq]
  have : g.data.toList = [] := List.eq_nil_of_length_eq_zero (by simpa using h)
  rw [this]; rfl
theorem empty_no {g : ByteArray} (h : g.size ≠ 0) : (!g.toList.isEmpty) = true := by
  rw [ByteArray.toList_eq]
  cases hl : g.data.toList with
  | nil => exact absurd (by have := congrArg List.length hl; simpa using this) h
  | cons a l => rfl
theorem eq_true_of_ne_false {b : Bool} (h : ¬ b = false) : b = true := by cases b; exact absurd rfl h; rfl
theorem name_is {g : ByteArray} (b : Bool) (w : World) (h : nameB g = b) (hg : g.size ≤ 9223372036854775807) :
    Calls Try.prog 27 #[.string g] w fun e w' => e = .returned (.bool b) ∧ Below w.heap.size w w' := by
  subst h
  exact name_any g w hg

set_option maxRecDepth 100000 in
set_option maxHeartbeats 2000000 in
theorem check_1 (t : Int) (g : ByteArray) (v i : Int) (w : World) (hg : g.size ≤ 9223372036854775807) :
    Calls Try.prog 11 #[.agg #[.int .i64 1, .int .i64 t, .string g, .int .i64 v, .int .i64 i]] w fun e w' => e = .returned (.int .i64 (recErr ⟨1, t, g, v, i⟩)) ∧ Below w.heap.size w w' := by
  have hw : Within (Rec.mk 1 t g v i).k 1 6 := (⟨by decide, by decide⟩ : Within 1 1 6)
  have HW := Lib.hid hw
  clear hw
  by_cases i0 : i ≠ 0
  · have iz : (i != 0) = true := by simp [i0]
    have HF := Lib.hid (err_field HW.out (by unfold FieldBad tagK namK; dsimp only; omega))
    clear i0
    go_enter Try.func11, Try.ntmps11
    go_wp2_with (first | (go_at_call 26; (with_reducible refine (within_any _ _ _ _).mono ?_); rintro e w' ⟨rfl, rfl⟩) | fail)
    go_ret
    exact ⟨ret_int (HF.out).symm, by (repeat (first | (with_reducible assumption) | (with_reducible exact Below.refl _ _) | ((with_reducible refine Below.setCell ?_ ?_ _); rotate_left; · (first | omega | (simp; done) | (simp; omega) | (simp at *; omega))) | ((with_reducible refine Below.alloc ?_ ?_ _); rotate_left; · (first | omega | (simp; done) | (simp; omega) | (simp at *; omega))) | (with_reducible refine Below.drew ?_) | (with_reducible refine below_drewN ?_ _) | ((refine Below.trans ?_ (Below.mono (by with_reducible assumption) ?_)); rotate_left; · (first | omega | (simp; done) | (simp; omega) | (simp at *; omega)))))⟩
  have i1 : i = 0 := by omega
  subst i1
  clear i0
  have HNF := Lib.hid (show ¬ FieldBad (Rec.mk 1 t g v 0) by unfold FieldBad tagK namK; dsimp only; omega)
  by_cases ht : ¬ Within t 0 1099511627776
  · have HF := Lib.hid (err_time HW.out HNF.out ht)
    have dt := decide_eq_false ht
    clear ht
    go_enter Try.func11, Try.ntmps11
    go_wp2_with (first | (go_at_call 26; (with_reducible refine (within_any _ _ _ _).mono ?_); rintro e w' ⟨rfl, rfl⟩) | fail)
    go_ret
    exact ⟨ret_int (HF.out).symm, by (repeat (first | (with_reducible assumption) | (with_reducible exact Below.refl _ _) | ((with_reducible refine Below.setCell ?_ ?_ _); rotate_left; · (first | omega | (simp; done) | (simp; omega) | (simp at *; omega))) | ((with_reducible refine Below.alloc ?_ ?_ _); rotate_left; · (first | omega | (simp; done) | (simp; omega) | (simp at *; omega))) | (with_reducible refine Below.drew ?_) | (with_reducible refine below_drewN ?_ _) | ((refine Below.trans ?_ (Below.mono (by with_reducible assumption) ?_)); rotate_left; · (first | omega | (simp; done) | (simp; omega) | (simp at *; omega)))))⟩
  have ht := Decidable.not_not.1 ht
  have HT := Lib.hid ht
  by_cases hn : nameB g = false
  · have HN := Lib.hid hn
    have HF := Lib.hid (err_name HW.out HNF.out HT.out (by unfold tagK; dsimp only; omega) hn)
    clear hn
    have dt := decide_eq_true ht
    clear ht
    go_enter Try.func11, Try.ntmps11
    go_wp2_with (first | (go_at_call 26; (with_reducible refine (within_any _ _ _ _).mono ?_); rintro e w' ⟨rfl, rfl⟩) | (go_at_call 27; (with_reducible refine (name_is false _ HN.out hg).mono ?_); rintro e w' ⟨rfl, hb⟩; obtain ⟨hc1, hf1⟩ := bcell hb; have hz : w.heap.size < w'.heap.size := (by have := hb.size; simp at this; omega)) | fail)
    go_ret
    exact ⟨ret_int (HF.out).symm, by (repeat (first | (with_reducible assumption) | (with_reducible exact Below.refl _ _) | ((with_reducible refine Below.setCell ?_ ?_ _); rotate_left; · (first | omega | (simp; done) | (simp; omega) | (simp at *; omega))) | ((with_reducible refine Below.alloc ?_ ?_ _); rotate_left; · (first | omega | (simp; done) | (simp; omega) | (simp at *; omega))) | (with_reducible refine Below.drew ?_) | (with_reducible refine below_drewN ?_ _) | ((refine Below.trans ?_ (Below.mono (by with_reducible assumption) ?_)); rotate_left; · (first | omega | (simp; done) | (simp; omega) | (simp at *; omega)))))⟩
  have hn := eq_true_of_ne_false hn
  have HN := Lib.hid hn
  have HNN := Lib.hid (show ¬ (tagK (1 : Int) ∧ nameB g = false) from fun h => by rw [h.2] at hn; cases hn)
  clear hn
  by_cases hv : ¬ Within v (-1099511627776) 1099511627776
  · have HF := Lib.hid (err_range HW.out HNF.out HT.out HNN.out (.inl ⟨by dsimp only; omega, hv⟩))
    have dt := decide_eq_true ht
    have dv := decide_eq_false hv
    clear ht
    clear hv
    go_enter Try.func11, Try.ntmps11
    go_wp2_with (first | (go_at_call 26; (with_reducible refine (within_any _ _ _ _).mono ?_); rintro e w' ⟨rfl, rfl⟩) | (go_at_call 27; (with_reducible refine (name_is true _ HN.out hg).mono ?_); rintro e w' ⟨rfl, hb⟩; obtain ⟨hc1, hf1⟩ := bcell hb; have hz : w.heap.size < w'.heap.size := (by have := hb.size; simp at this; omega)) | fail)
    go_ret
    exact ⟨ret_int (HF.out).symm, by (repeat (first | (with_reducible assumption) | (with_reducible exact Below.refl _ _) | ((with_reducible refine Below.setCell ?_ ?_ _); rotate_left; · (first | omega | (simp; done) | (simp; omega) | (simp at *; omega))) | ((with_reducible refine Below.alloc ?_ ?_ _); rotate_left; · (first | omega | (simp; done) | (simp; omega) | (simp at *; omega))) | (with_reducible refine Below.drew ?_) | (with_reducible refine below_drewN ?_ _) | ((refine Below.trans ?_ (Below.mono (by with_reducible assumption) ?_)); rotate_left; · (first | omega | (simp; done) | (simp; omega) | (simp at *; omega)))))⟩
  have hv := Decidable.not_not.1 hv
  have HV := Lib.hid hv
  have HF := Lib.hid (err_ok HW.out HNF.out HT.out HNN.out (fun h => h.elim (fun h => h.2 HV.out) (fun h => by have := h.1; unfold namK at this; dsimp only at this; omega)))
  have dt := decide_eq_true ht
  have dv := decide_eq_true hv
  clear ht
  clear hv
  go_enter Try.func11, Try.ntmps11
  go_wp2_with (first | (go_at_call 26; (with_reducible refine (within_any _ _ _ _).mono ?_); rintro e w' ⟨rfl, rfl⟩) | (go_at_call 27; (with_reducible refine (name_is true _ HN.out hg).mono ?_); rintro e w' ⟨rfl, hb⟩; obtain ⟨hc1, hf1⟩ := bcell hb; have hz : w.heap.size < w'.heap.size := (by have := hb.size; simp at this; omega)) | fail)
  go_ret
  exact ⟨ret_int (HF.out).symm, by (repeat (first | (with_reducible assumption) | (with_reducible exact Below.refl _ _) | ((with_reducible refine Below.setCell ?_ ?_ _); rotate_left; · (first | omega | (simp; done) | (simp; omega) | (simp at *; omega))) | ((with_reducible refine Below.alloc ?_ ?_ _); rotate_left; · (first | omega | (simp; done) | (simp; omega) | (simp at *; omega))) | (with_reducible refine Below.drew ?_) | (with_reducible refine below_drewN ?_ _) | ((refine Below.trans ?_ (Below.mono (by with_reducible assumption) ?_)); rotate_left; · (first | omega | (simp; done) | (simp; omega) | (simp at *; omega)))))⟩

set_option maxRecDepth 100000 in
set_option maxHeartbeats 2000000 in
theorem check_2 (t : Int) (g : ByteArray) (v i : Int) (w : World) (hg : g.size ≤ 9223372036854775807) :
    Calls Try.prog 11 #[.agg #[.int .i64 2, .int .i64 t, .string g, .int .i64 v, .int .i64 i]] w fun e w' => e = .returned (.int .i64 (recErr ⟨2, t, g, v, i⟩)) ∧ Below w.heap.size w w' := by
  have hw : Within (Rec.mk 2 t g v i).k 1 6 := (⟨by decide, by decide⟩ : Within 2 1 6)
  have HW := Lib.hid hw
  clear hw
  by_cases i0 : i ≠ 0
  · have iz : (i != 0) = true := by simp [i0]
    have HF := Lib.hid (err_field HW.out (by unfold FieldBad tagK namK; dsimp only; omega))
    clear i0
    go_enter Try.func11, Try.ntmps11
    go_wp2_with (first | (go_at_call 26; (with_reducible refine (within_any _ _ _ _).mono ?_); rintro e w' ⟨rfl, rfl⟩) | fail)
    go_ret
    exact ⟨ret_int (HF.out).symm, by (repeat (first | (with_reducible assumption) | (with_reducible exact Below.refl _ _) | ((with_reducible refine Below.setCell ?_ ?_ _); rotate_left; · (first | omega | (simp; done) | (simp; omega) | (simp at *; omega))) | ((with_reducible refine Below.alloc ?_ ?_ _); rotate_left; · (first | omega | (simp; done) | (simp; omega) | (simp at *; omega))) | (with_reducible refine Below.drew ?_) | (with_reducible refine below_drewN ?_ _) | ((refine Below.trans ?_ (Below.mono (by with_reducible assumption) ?_)); rotate_left; · (first | omega | (simp; done) | (simp; omega) | (simp at *; omega)))))⟩
  have i1 : i = 0 := by omega
  subst i1
  clear i0
  have HNF := Lib.hid (show ¬ FieldBad (Rec.mk 2 t g v 0) by unfold FieldBad tagK namK; dsimp only; omega)
  by_cases ht : ¬ Within t 0 1099511627776
  · have HF := Lib.hid (err_time HW.out HNF.out ht)
    have dt := decide_eq_false ht
    clear ht
    go_enter Try.func11, Try.ntmps11
    go_wp2_with (first | (go_at_call 26; (with_reducible refine (within_any _ _ _ _).mono ?_); rintro e w' ⟨rfl, rfl⟩) | fail)
    go_ret
    exact ⟨ret_int (HF.out).symm, by (repeat (first | (with_reducible assumption) | (with_reducible exact Below.refl _ _) | ((with_reducible refine Below.setCell ?_ ?_ _); rotate_left; · (first | omega | (simp; done) | (simp; omega) | (simp at *; omega))) | ((with_reducible refine Below.alloc ?_ ?_ _); rotate_left; · (first | omega | (simp; done) | (simp; omega) | (simp at *; omega))) | (with_reducible refine Below.drew ?_) | (with_reducible refine below_drewN ?_ _) | ((refine Below.trans ?_ (Below.mono (by with_reducible assumption) ?_)); rotate_left; · (first | omega | (simp; done) | (simp; omega) | (simp at *; omega)))))⟩
  have ht := Decidable.not_not.1 ht
  have HT := Lib.hid ht
  by_cases hn : nameB g = false
  · have HN := Lib.hid hn
    have HF := Lib.hid (err_name HW.out HNF.out HT.out (by unfold tagK; dsimp only; omega) hn)
    clear hn
    have dt := decide_eq_true ht
    clear ht
    go_enter Try.func11, Try.ntmps11
    go_wp2_with (first | (go_at_call 26; (with_reducible refine (within_any _ _ _ _).mono ?_); rintro e w' ⟨rfl, rfl⟩) | (go_at_call 27; (with_reducible refine (name_is false _ HN.out hg).mono ?_); rintro e w' ⟨rfl, hb⟩; obtain ⟨hc1, hf1⟩ := bcell hb; have hz : w.heap.size < w'.heap.size := (by have := hb.size; simp at this; omega)) | fail)
    go_ret
    exact ⟨ret_int (HF.out).symm, by (repeat (first | (with_reducible assumption) | (with_reducible exact Below.refl _ _) | ((with_reducible refine Below.setCell ?_ ?_ _); rotate_left; · (first | omega | (simp; done) | (simp; omega) | (simp at *; omega))) | ((with_reducible refine Below.alloc ?_ ?_ _); rotate_left; · (first | omega | (simp; done) | (simp; omega) | (simp at *; omega))) | (with_reducible refine Below.drew ?_) | (with_reducible refine below_drewN ?_ _) | ((refine Below.trans ?_ (Below.mono (by with_reducible assumption) ?_)); rotate_left; · (first | omega | (simp; done) | (simp; omega) | (simp at *; omega)))))⟩
  have hn := eq_true_of_ne_false hn
  have HN := Lib.hid hn
  have HNN := Lib.hid (show ¬ (tagK (2 : Int) ∧ nameB g = false) from fun h => by rw [h.2] at hn; cases hn)
  clear hn
  by_cases hv : ¬ Within v (1) 4
  · have HF := Lib.hid (err_range HW.out HNF.out HT.out HNN.out (.inl ⟨by dsimp only; omega, hv⟩))
    have dt := decide_eq_true ht
    have dv := decide_eq_false hv
    clear ht
    clear hv
    go_enter Try.func11, Try.ntmps11
    go_wp2_with (first | (go_at_call 26; (with_reducible refine (within_any _ _ _ _).mono ?_); rintro e w' ⟨rfl, rfl⟩) | (go_at_call 27; (with_reducible refine (name_is true _ HN.out hg).mono ?_); rintro e w' ⟨rfl, hb⟩; obtain ⟨hc1, hf1⟩ := bcell hb; have hz : w.heap.size < w'.heap.size := (by have := hb.size; simp at this; omega)) | fail)
    go_ret
    exact ⟨ret_int (HF.out).symm, by (repeat (first | (with_reducible assumption) | (with_reducible exact Below.refl _ _) | ((with_reducible refine Below.setCell ?_ ?_ _); rotate_left; · (first | omega | (simp; done) | (simp; omega) | (simp at *; omega))) | ((with_reducible refine Below.alloc ?_ ?_ _); rotate_left; · (first | omega | (simp; done) | (simp; omega) | (simp at *; omega))) | (with_reducible refine Below.drew ?_) | (with_reducible refine below_drewN ?_ _) | ((refine Below.trans ?_ (Below.mono (by with_reducible assumption) ?_)); rotate_left; · (first | omega | (simp; done) | (simp; omega) | (simp at *; omega)))))⟩
  have hv := Decidable.not_not.1 hv
  have HV := Lib.hid hv
  have HF := Lib.hid (err_ok HW.out HNF.out HT.out HNN.out (fun h => h.elim (fun h => h.2 HV.out) (fun h => by have := h.1; unfold namK at this; dsimp only at this; omega)))
  have dt := decide_eq_true ht
  have dv := decide_eq_true hv
  clear ht
  clear hv
  go_enter Try.func11, Try.ntmps11
  go_wp2_with (first | (go_at_call 26; (with_reducible refine (within_any _ _ _ _).mono ?_); rintro e w' ⟨rfl, rfl⟩) | (go_at_call 27; (with_reducible refine (name_is true _ HN.out hg).mono ?_); rintro e w' ⟨rfl, hb⟩; obtain ⟨hc1, hf1⟩ := bcell hb; have hz : w.heap.size < w'.heap.size := (by have := hb.size; simp at this; omega)) | fail)
  go_ret
  exact ⟨ret_int (HF.out).symm, by (repeat (first | (with_reducible assumption) | (with_reducible exact Below.refl _ _) | ((with_reducible refine Below.setCell ?_ ?_ _); rotate_left; · (first | omega | (simp; done) | (simp; omega) | (simp at *; omega))) | ((with_reducible refine Below.alloc ?_ ?_ _); rotate_left; · (first | omega | (simp; done) | (simp; omega) | (simp at *; omega))) | (with_reducible refine Below.drew ?_) | (with_reducible refine below_drewN ?_ _) | ((refine Below.trans ?_ (Below.mono (by with_reducible assumption) ?_)); rotate_left; · (first | omega | (simp; done) | (simp; omega) | (simp at *; omega)))))⟩

set_option maxRecDepth 100000 in
set_option maxHeartbeats 2000000 in
theorem check_3 (t : Int) (g : ByteArray) (v i : Int) (w : World) (hg : g.size ≤ 9223372036854775807) :
    Calls Try.prog 11 #[.agg #[.int .i64 3, .int .i64 t, .string g, .int .i64 v, .int .i64 i]] w fun e w' => e = .returned (.int .i64 (recErr ⟨3, t, g, v, i⟩)) ∧ Below w.heap.size w w' := by
  have hw : Within (Rec.mk 3 t g v i).k 1 6 := (⟨by decide, by decide⟩ : Within 3 1 6)
  have HW := Lib.hid hw
  clear hw
  by_cases g0 : g.size ≠ 0
  · have gz := empty_no g0
    have gn : (0 : Int) < (g.size : Int) := by omega
    have gn2 : 0 < g.size := by omega
    have HF := Lib.hid (err_field HW.out (by unfold FieldBad tagK namK; dsimp only; omega))
    clear g0
    go_enter Try.func11, Try.ntmps11
    go_wp2_with (first | (go_at_call 26; (with_reducible refine (within_any _ _ _ _).mono ?_); rintro e w' ⟨rfl, rfl⟩) | fail)
    go_ret
    exact ⟨ret_int (HF.out).symm, by (repeat (first | (with_reducible assumption) | (with_reducible exact Below.refl _ _) | ((with_reducible refine Below.setCell ?_ ?_ _); rotate_left; · (first | omega | (simp; done) | (simp; omega) | (simp at *; omega))) | ((with_reducible refine Below.alloc ?_ ?_ _); rotate_left; · (first | omega | (simp; done) | (simp; omega) | (simp at *; omega))) | (with_reducible refine Below.drew ?_) | (with_reducible refine below_drewN ?_ _) | ((refine Below.trans ?_ (Below.mono (by with_reducible assumption) ?_)); rotate_left; · (first | omega | (simp; done) | (simp; omega) | (simp at *; omega)))))⟩
  have g1 : g.size = 0 := by omega
  have gz := empty_yes g1
  have gn : ¬ (0 : Int) < (g.size : Int) := by omega
  have gn2 : decide (0 < g.size) = false := by rw [decide_eq_false_iff_not]; omega
  have G1 := Lib.hid g1
  clear g0 g1
  by_cases i0 : i ≠ 0
  · have iz : (i != 0) = true := by simp [i0]
    have HF := Lib.hid (err_field HW.out (by unfold FieldBad tagK namK; dsimp only; omega))
    clear i0
    go_enter Try.func11, Try.ntmps11
    go_wp2_with (first | (go_at_call 26; (with_reducible refine (within_any _ _ _ _).mono ?_); rintro e w' ⟨rfl, rfl⟩) | fail)
    go_ret
    exact ⟨ret_int (HF.out).symm, by (repeat (first | (with_reducible assumption) | (with_reducible exact Below.refl _ _) | ((with_reducible refine Below.setCell ?_ ?_ _); rotate_left; · (first | omega | (simp; done) | (simp; omega) | (simp at *; omega))) | ((with_reducible refine Below.alloc ?_ ?_ _); rotate_left; · (first | omega | (simp; done) | (simp; omega) | (simp at *; omega))) | (with_reducible refine Below.drew ?_) | (with_reducible refine below_drewN ?_ _) | ((refine Below.trans ?_ (Below.mono (by with_reducible assumption) ?_)); rotate_left; · (first | omega | (simp; done) | (simp; omega) | (simp at *; omega)))))⟩
  have i1 : i = 0 := by omega
  subst i1
  clear i0
  have HNF := Lib.hid (show ¬ FieldBad (Rec.mk 3 t g v 0) by have := G1.out; unfold FieldBad tagK namK; dsimp only; omega)
  by_cases ht : ¬ Within t 0 1099511627776
  · have HF := Lib.hid (err_time HW.out HNF.out ht)
    have dt := decide_eq_false ht
    clear ht
    go_enter Try.func11, Try.ntmps11
    go_wp2_with (first | (go_at_call 26; (with_reducible refine (within_any _ _ _ _).mono ?_); rintro e w' ⟨rfl, rfl⟩) | fail)
    go_ret
    exact ⟨ret_int (HF.out).symm, by (repeat (first | (with_reducible assumption) | (with_reducible exact Below.refl _ _) | ((with_reducible refine Below.setCell ?_ ?_ _); rotate_left; · (first | omega | (simp; done) | (simp; omega) | (simp at *; omega))) | ((with_reducible refine Below.alloc ?_ ?_ _); rotate_left; · (first | omega | (simp; done) | (simp; omega) | (simp at *; omega))) | (with_reducible refine Below.drew ?_) | (with_reducible refine below_drewN ?_ _) | ((refine Below.trans ?_ (Below.mono (by with_reducible assumption) ?_)); rotate_left; · (first | omega | (simp; done) | (simp; omega) | (simp at *; omega)))))⟩
  have ht := Decidable.not_not.1 ht
  have HT := Lib.hid ht
  have HNN := Lib.hid (show ¬ (tagK (3 : Int) ∧ nameB g = false) from fun h => by have := h.1; unfold tagK at this; omega)
  by_cases hv : ¬ Within v (1) 1099511627776
  · have HF := Lib.hid (err_range HW.out HNF.out HT.out HNN.out (.inl ⟨by dsimp only; omega, hv⟩))
    have dt := decide_eq_true ht
    have dv := decide_eq_false hv
    clear ht
    clear hv
    go_enter Try.func11, Try.ntmps11
    go_wp2_with (first | (go_at_call 26; (with_reducible refine (within_any _ _ _ _).mono ?_); rintro e w' ⟨rfl, rfl⟩) | fail)
    go_ret
    exact ⟨ret_int (HF.out).symm, by (repeat (first | (with_reducible assumption) | (with_reducible exact Below.refl _ _) | ((with_reducible refine Below.setCell ?_ ?_ _); rotate_left; · (first | omega | (simp; done) | (simp; omega) | (simp at *; omega))) | ((with_reducible refine Below.alloc ?_ ?_ _); rotate_left; · (first | omega | (simp; done) | (simp; omega) | (simp at *; omega))) | (with_reducible refine Below.drew ?_) | (with_reducible refine below_drewN ?_ _) | ((refine Below.trans ?_ (Below.mono (by with_reducible assumption) ?_)); rotate_left; · (first | omega | (simp; done) | (simp; omega) | (simp at *; omega)))))⟩
  have hv := Decidable.not_not.1 hv
  have HV := Lib.hid hv
  have HF := Lib.hid (err_ok HW.out HNF.out HT.out HNN.out (fun h => h.elim (fun h => h.2 HV.out) (fun h => by have := h.1; unfold namK at this; dsimp only at this; omega)))
  have dt := decide_eq_true ht
  have dv := decide_eq_true hv
  clear ht
  clear hv
  go_enter Try.func11, Try.ntmps11
  go_wp2_with (first | (go_at_call 26; (with_reducible refine (within_any _ _ _ _).mono ?_); rintro e w' ⟨rfl, rfl⟩) | fail)
  go_ret
  exact ⟨ret_int (HF.out).symm, by (repeat (first | (with_reducible assumption) | (with_reducible exact Below.refl _ _) | ((with_reducible refine Below.setCell ?_ ?_ _); rotate_left; · (first | omega | (simp; done) | (simp; omega) | (simp at *; omega))) | ((with_reducible refine Below.alloc ?_ ?_ _); rotate_left; · (first | omega | (simp; done) | (simp; omega) | (simp at *; omega))) | (with_reducible refine Below.drew ?_) | (with_reducible refine below_drewN ?_ _) | ((refine Below.trans ?_ (Below.mono (by with_reducible assumption) ?_)); rotate_left; · (first | omega | (simp; done) | (simp; omega) | (simp at *; omega)))))⟩

set_option maxRecDepth 100000 in
set_option maxHeartbeats 2000000 in
theorem check_4 (t : Int) (g : ByteArray) (v i : Int) (w : World) (hg : g.size ≤ 9223372036854775807) :
    Calls Try.prog 11 #[.agg #[.int .i64 4, .int .i64 t, .string g, .int .i64 v, .int .i64 i]] w fun e w' => e = .returned (.int .i64 (recErr ⟨4, t, g, v, i⟩)) ∧ Below w.heap.size w w' := by
  have hw : Within (Rec.mk 4 t g v i).k 1 6 := (⟨by decide, by decide⟩ : Within 4 1 6)
  have HW := Lib.hid hw
  clear hw
  by_cases g0 : g.size ≠ 0
  · have gz := empty_no g0
    have gn : (0 : Int) < (g.size : Int) := by omega
    have gn2 : 0 < g.size := by omega
    have HF := Lib.hid (err_field HW.out (by unfold FieldBad tagK namK; dsimp only; omega))
    clear g0
    go_enter Try.func11, Try.ntmps11
    go_wp2_with (first | (go_at_call 26; (with_reducible refine (within_any _ _ _ _).mono ?_); rintro e w' ⟨rfl, rfl⟩) | fail)
    go_ret
    exact ⟨ret_int (HF.out).symm, by (repeat (first | (with_reducible assumption) | (with_reducible exact Below.refl _ _) | ((with_reducible refine Below.setCell ?_ ?_ _); rotate_left; · (first | omega | (simp; done) | (simp; omega) | (simp at *; omega))) | ((with_reducible refine Below.alloc ?_ ?_ _); rotate_left; · (first | omega | (simp; done) | (simp; omega) | (simp at *; omega))) | (with_reducible refine Below.drew ?_) | (with_reducible refine below_drewN ?_ _) | ((refine Below.trans ?_ (Below.mono (by with_reducible assumption) ?_)); rotate_left; · (first | omega | (simp; done) | (simp; omega) | (simp at *; omega)))))⟩
  have g1 : g.size = 0 := by omega
  have gz := empty_yes g1
  have gn : ¬ (0 : Int) < (g.size : Int) := by omega
  have gn2 : decide (0 < g.size) = false := by rw [decide_eq_false_iff_not]; omega
  have G1 := Lib.hid g1
  clear g0 g1
  by_cases i0 : i ≠ 0
  · have iz : (i != 0) = true := by simp [i0]
    have HF := Lib.hid (err_field HW.out (by unfold FieldBad tagK namK; dsimp only; omega))
    clear i0
    go_enter Try.func11, Try.ntmps11
    go_wp2_with (first | (go_at_call 26; (with_reducible refine (within_any _ _ _ _).mono ?_); rintro e w' ⟨rfl, rfl⟩) | fail)
    go_ret
    exact ⟨ret_int (HF.out).symm, by (repeat (first | (with_reducible assumption) | (with_reducible exact Below.refl _ _) | ((with_reducible refine Below.setCell ?_ ?_ _); rotate_left; · (first | omega | (simp; done) | (simp; omega) | (simp at *; omega))) | ((with_reducible refine Below.alloc ?_ ?_ _); rotate_left; · (first | omega | (simp; done) | (simp; omega) | (simp at *; omega))) | (with_reducible refine Below.drew ?_) | (with_reducible refine below_drewN ?_ _) | ((refine Below.trans ?_ (Below.mono (by with_reducible assumption) ?_)); rotate_left; · (first | omega | (simp; done) | (simp; omega) | (simp at *; omega)))))⟩
  have i1 : i = 0 := by omega
  subst i1
  clear i0
  have HNF := Lib.hid (show ¬ FieldBad (Rec.mk 4 t g v 0) by have := G1.out; unfold FieldBad tagK namK; dsimp only; omega)
  by_cases ht : ¬ Within t 0 1099511627776
  · have HF := Lib.hid (err_time HW.out HNF.out ht)
    have dt := decide_eq_false ht
    clear ht
    go_enter Try.func11, Try.ntmps11
    go_wp2_with (first | (go_at_call 26; (with_reducible refine (within_any _ _ _ _).mono ?_); rintro e w' ⟨rfl, rfl⟩) | fail)
    go_ret
    exact ⟨ret_int (HF.out).symm, by (repeat (first | (with_reducible assumption) | (with_reducible exact Below.refl _ _) | ((with_reducible refine Below.setCell ?_ ?_ _); rotate_left; · (first | omega | (simp; done) | (simp; omega) | (simp at *; omega))) | ((with_reducible refine Below.alloc ?_ ?_ _); rotate_left; · (first | omega | (simp; done) | (simp; omega) | (simp at *; omega))) | (with_reducible refine Below.drew ?_) | (with_reducible refine below_drewN ?_ _) | ((refine Below.trans ?_ (Below.mono (by with_reducible assumption) ?_)); rotate_left; · (first | omega | (simp; done) | (simp; omega) | (simp at *; omega)))))⟩
  have ht := Decidable.not_not.1 ht
  have HT := Lib.hid ht
  have HNN := Lib.hid (show ¬ (tagK (4 : Int) ∧ nameB g = false) from fun h => by have := h.1; unfold tagK at this; omega)
  by_cases hv : ¬ Within v (1) 1099511627776
  · have HF := Lib.hid (err_range HW.out HNF.out HT.out HNN.out (.inl ⟨by dsimp only; omega, hv⟩))
    have dt := decide_eq_true ht
    have dv := decide_eq_false hv
    clear ht
    clear hv
    go_enter Try.func11, Try.ntmps11
    go_wp2_with (first | (go_at_call 26; (with_reducible refine (within_any _ _ _ _).mono ?_); rintro e w' ⟨rfl, rfl⟩) | fail)
    go_ret
    exact ⟨ret_int (HF.out).symm, by (repeat (first | (with_reducible assumption) | (with_reducible exact Below.refl _ _) | ((with_reducible refine Below.setCell ?_ ?_ _); rotate_left; · (first | omega | (simp; done) | (simp; omega) | (simp at *; omega))) | ((with_reducible refine Below.alloc ?_ ?_ _); rotate_left; · (first | omega | (simp; done) | (simp; omega) | (simp at *; omega))) | (with_reducible refine Below.drew ?_) | (with_reducible refine below_drewN ?_ _) | ((refine Below.trans ?_ (Below.mono (by with_reducible assumption) ?_)); rotate_left; · (first | omega | (simp; done) | (simp; omega) | (simp at *; omega)))))⟩
  have hv := Decidable.not_not.1 hv
  have HV := Lib.hid hv
  have HF := Lib.hid (err_ok HW.out HNF.out HT.out HNN.out (fun h => h.elim (fun h => h.2 HV.out) (fun h => by have := h.1; unfold namK at this; dsimp only at this; omega)))
  have dt := decide_eq_true ht
  have dv := decide_eq_true hv
  clear ht
  clear hv
  go_enter Try.func11, Try.ntmps11
  go_wp2_with (first | (go_at_call 26; (with_reducible refine (within_any _ _ _ _).mono ?_); rintro e w' ⟨rfl, rfl⟩) | fail)
  go_ret
  exact ⟨ret_int (HF.out).symm, by (repeat (first | (with_reducible assumption) | (with_reducible exact Below.refl _ _) | ((with_reducible refine Below.setCell ?_ ?_ _); rotate_left; · (first | omega | (simp; done) | (simp; omega) | (simp at *; omega))) | ((with_reducible refine Below.alloc ?_ ?_ _); rotate_left; · (first | omega | (simp; done) | (simp; omega) | (simp at *; omega))) | (with_reducible refine Below.drew ?_) | (with_reducible refine below_drewN ?_ _) | ((refine Below.trans ?_ (Below.mono (by with_reducible assumption) ?_)); rotate_left; · (first | omega | (simp; done) | (simp; omega) | (simp at *; omega)))))⟩

set_option maxRecDepth 100000 in
set_option maxHeartbeats 2000000 in
theorem check_5 (t : Int) (g : ByteArray) (v i : Int) (w : World) (hg : g.size ≤ 9223372036854775807) :
    Calls Try.prog 11 #[.agg #[.int .i64 5, .int .i64 t, .string g, .int .i64 v, .int .i64 i]] w fun e w' => e = .returned (.int .i64 (recErr ⟨5, t, g, v, i⟩)) ∧ Below w.heap.size w w' := by
  have hw : Within (Rec.mk 5 t g v i).k 1 6 := (⟨by decide, by decide⟩ : Within 5 1 6)
  have HW := Lib.hid hw
  clear hw
  by_cases g0 : g.size ≠ 0
  · have gz := empty_no g0
    have gn : (0 : Int) < (g.size : Int) := by omega
    have gn2 : 0 < g.size := by omega
    have HF := Lib.hid (err_field HW.out (by unfold FieldBad tagK namK; dsimp only; omega))
    clear g0
    go_enter Try.func11, Try.ntmps11
    go_wp2_with (first | (go_at_call 26; (with_reducible refine (within_any _ _ _ _).mono ?_); rintro e w' ⟨rfl, rfl⟩) | fail)
    go_ret
    exact ⟨ret_int (HF.out).symm, by (repeat (first | (with_reducible assumption) | (with_reducible exact Below.refl _ _) | ((with_reducible refine Below.setCell ?_ ?_ _); rotate_left; · (first | omega | (simp; done) | (simp; omega) | (simp at *; omega))) | ((with_reducible refine Below.alloc ?_ ?_ _); rotate_left; · (first | omega | (simp; done) | (simp; omega) | (simp at *; omega))) | (with_reducible refine Below.drew ?_) | (with_reducible refine below_drewN ?_ _) | ((refine Below.trans ?_ (Below.mono (by with_reducible assumption) ?_)); rotate_left; · (first | omega | (simp; done) | (simp; omega) | (simp at *; omega)))))⟩
  have g1 : g.size = 0 := by omega
  have gz := empty_yes g1
  have gn : ¬ (0 : Int) < (g.size : Int) := by omega
  have gn2 : decide (0 < g.size) = false := by rw [decide_eq_false_iff_not]; omega
  have G1 := Lib.hid g1
  clear g0 g1
  by_cases v0 : v ≠ 0
  · have vz : (v != 0) = true := by simp [v0]
    have HF := Lib.hid (err_field HW.out (by unfold FieldBad tagK namK; dsimp only; omega))
    clear v0
    go_enter Try.func11, Try.ntmps11
    go_wp2_with (first | (go_at_call 26; (with_reducible refine (within_any _ _ _ _).mono ?_); rintro e w' ⟨rfl, rfl⟩) | fail)
    go_ret
    exact ⟨ret_int (HF.out).symm, by (repeat (first | (with_reducible assumption) | (with_reducible exact Below.refl _ _) | ((with_reducible refine Below.setCell ?_ ?_ _); rotate_left; · (first | omega | (simp; done) | (simp; omega) | (simp at *; omega))) | ((with_reducible refine Below.alloc ?_ ?_ _); rotate_left; · (first | omega | (simp; done) | (simp; omega) | (simp at *; omega))) | (with_reducible refine Below.drew ?_) | (with_reducible refine below_drewN ?_ _) | ((refine Below.trans ?_ (Below.mono (by with_reducible assumption) ?_)); rotate_left; · (first | omega | (simp; done) | (simp; omega) | (simp at *; omega)))))⟩
  have v1 : v = 0 := by omega
  subst v1
  clear v0
  have HNF := Lib.hid (show ¬ FieldBad (Rec.mk 5 t g 0 i) by have := G1.out; unfold FieldBad tagK namK; dsimp only; omega)
  by_cases ht : ¬ Within t 0 1099511627776
  · have HF := Lib.hid (err_time HW.out HNF.out ht)
    have dt := decide_eq_false ht
    clear ht
    go_enter Try.func11, Try.ntmps11
    go_wp2_with (first | (go_at_call 26; (with_reducible refine (within_any _ _ _ _).mono ?_); rintro e w' ⟨rfl, rfl⟩) | fail)
    go_ret
    exact ⟨ret_int (HF.out).symm, by (repeat (first | (with_reducible assumption) | (with_reducible exact Below.refl _ _) | ((with_reducible refine Below.setCell ?_ ?_ _); rotate_left; · (first | omega | (simp; done) | (simp; omega) | (simp at *; omega))) | ((with_reducible refine Below.alloc ?_ ?_ _); rotate_left; · (first | omega | (simp; done) | (simp; omega) | (simp at *; omega))) | (with_reducible refine Below.drew ?_) | (with_reducible refine below_drewN ?_ _) | ((refine Below.trans ?_ (Below.mono (by with_reducible assumption) ?_)); rotate_left; · (first | omega | (simp; done) | (simp; omega) | (simp at *; omega)))))⟩
  have ht := Decidable.not_not.1 ht
  have HT := Lib.hid ht
  have HNN := Lib.hid (show ¬ (tagK (5 : Int) ∧ nameB g = false) from fun h => by have := h.1; unfold tagK at this; omega)
  by_cases hi : ¬ Within i 1 1099511627776
  · have HF := Lib.hid (err_range HW.out HNF.out HT.out HNN.out (.inr ⟨by unfold namK; dsimp only; omega, hi⟩))
    have dt := decide_eq_true ht
    have di := decide_eq_false hi
    clear ht
    clear hi
    go_enter Try.func11, Try.ntmps11
    go_wp2_with (first | (go_at_call 26; (with_reducible refine (within_any _ _ _ _).mono ?_); rintro e w' ⟨rfl, rfl⟩) | fail)
    go_ret
    exact ⟨ret_int (HF.out).symm, by (repeat (first | (with_reducible assumption) | (with_reducible exact Below.refl _ _) | ((with_reducible refine Below.setCell ?_ ?_ _); rotate_left; · (first | omega | (simp; done) | (simp; omega) | (simp at *; omega))) | ((with_reducible refine Below.alloc ?_ ?_ _); rotate_left; · (first | omega | (simp; done) | (simp; omega) | (simp at *; omega))) | (with_reducible refine Below.drew ?_) | (with_reducible refine below_drewN ?_ _) | ((refine Below.trans ?_ (Below.mono (by with_reducible assumption) ?_)); rotate_left; · (first | omega | (simp; done) | (simp; omega) | (simp at *; omega)))))⟩
  have hi := Decidable.not_not.1 hi
  have HI := Lib.hid hi
  have HF := Lib.hid (err_ok HW.out HNF.out HT.out HNN.out (fun h => h.elim (fun h => absurd rfl h.1) (fun h => h.2 HI.out)))
  have dt := decide_eq_true ht
  have di := decide_eq_true hi
  clear ht
  clear hi
  go_enter Try.func11, Try.ntmps11
  go_wp2_with (first | (go_at_call 26; (with_reducible refine (within_any _ _ _ _).mono ?_); rintro e w' ⟨rfl, rfl⟩) | fail)
  go_ret
  exact ⟨ret_int (HF.out).symm, by (repeat (first | (with_reducible assumption) | (with_reducible exact Below.refl _ _) | ((with_reducible refine Below.setCell ?_ ?_ _); rotate_left; · (first | omega | (simp; done) | (simp; omega) | (simp at *; omega))) | ((with_reducible refine Below.alloc ?_ ?_ _); rotate_left; · (first | omega | (simp; done) | (simp; omega) | (simp at *; omega))) | (with_reducible refine Below.drew ?_) | (with_reducible refine below_drewN ?_ _) | ((refine Below.trans ?_ (Below.mono (by with_reducible assumption) ?_)); rotate_left; · (first | omega | (simp; done) | (simp; omega) | (simp at *; omega)))))⟩

set_option maxRecDepth 100000 in
set_option maxHeartbeats 2000000 in
theorem check_6 (t : Int) (g : ByteArray) (v i : Int) (w : World) (hg : g.size ≤ 9223372036854775807) :
    Calls Try.prog 11 #[.agg #[.int .i64 6, .int .i64 t, .string g, .int .i64 v, .int .i64 i]] w fun e w' => e = .returned (.int .i64 (recErr ⟨6, t, g, v, i⟩)) ∧ Below w.heap.size w w' := by
  have hw : Within (Rec.mk 6 t g v i).k 1 6 := (⟨by decide, by decide⟩ : Within 6 1 6)
  have HW := Lib.hid hw
  clear hw
  by_cases g0 : g.size ≠ 0
  · have gz := empty_no g0
    have gn : (0 : Int) < (g.size : Int) := by omega
    have gn2 : 0 < g.size := by omega
    have HF := Lib.hid (err_field HW.out (by unfold FieldBad tagK namK; dsimp only; omega))
    clear g0
    go_enter Try.func11, Try.ntmps11
    go_wp2_with (first | (go_at_call 26; (with_reducible refine (within_any _ _ _ _).mono ?_); rintro e w' ⟨rfl, rfl⟩) | fail)
    go_ret
    exact ⟨ret_int (HF.out).symm, by (repeat (first | (with_reducible assumption) | (with_reducible exact Below.refl _ _) | ((with_reducible refine Below.setCell ?_ ?_ _); rotate_left; · (first | omega | (simp; done) | (simp; omega) | (simp at *; omega))) | ((with_reducible refine Below.alloc ?_ ?_ _); rotate_left; · (first | omega | (simp; done) | (simp; omega) | (simp at *; omega))) | (with_reducible refine Below.drew ?_) | (with_reducible refine below_drewN ?_ _) | ((refine Below.trans ?_ (Below.mono (by with_reducible assumption) ?_)); rotate_left; · (first | omega | (simp; done) | (simp; omega) | (simp at *; omega)))))⟩
  have g1 : g.size = 0 := by omega
  have gz := empty_yes g1
  have gn : ¬ (0 : Int) < (g.size : Int) := by omega
  have gn2 : decide (0 < g.size) = false := by rw [decide_eq_false_iff_not]; omega
  have G1 := Lib.hid g1
  clear g0 g1
  have HNF := Lib.hid (show ¬ FieldBad (Rec.mk 6 t g v i) by have := G1.out; unfold FieldBad tagK namK; dsimp only; omega)
  by_cases ht : ¬ Within t 0 1099511627776
  · have HF := Lib.hid (err_time HW.out HNF.out ht)
    have dt := decide_eq_false ht
    clear ht
    go_enter Try.func11, Try.ntmps11
    go_wp2_with (first | (go_at_call 26; (with_reducible refine (within_any _ _ _ _).mono ?_); rintro e w' ⟨rfl, rfl⟩) | fail)
    go_ret
    exact ⟨ret_int (HF.out).symm, by (repeat (first | (with_reducible assumption) | (with_reducible exact Below.refl _ _) | ((with_reducible refine Below.setCell ?_ ?_ _); rotate_left; · (first | omega | (simp; done) | (simp; omega) | (simp at *; omega))) | ((with_reducible refine Below.alloc ?_ ?_ _); rotate_left; · (first | omega | (simp; done) | (simp; omega) | (simp at *; omega))) | (with_reducible refine Below.drew ?_) | (with_reducible refine below_drewN ?_ _) | ((refine Below.trans ?_ (Below.mono (by with_reducible assumption) ?_)); rotate_left; · (first | omega | (simp; done) | (simp; omega) | (simp at *; omega)))))⟩
  have ht := Decidable.not_not.1 ht
  have HT := Lib.hid ht
  have HNN := Lib.hid (show ¬ (tagK (6 : Int) ∧ nameB g = false) from fun h => by have := h.1; unfold tagK at this; omega)
  by_cases hv : ¬ Within v (0) 255
  · have HF := Lib.hid (err_range HW.out HNF.out HT.out HNN.out (.inl ⟨by dsimp only; omega, hv⟩))
    have dt := decide_eq_true ht
    have dv := decide_eq_false hv
    clear ht
    clear hv
    go_enter Try.func11, Try.ntmps11
    go_wp2_with (first | (go_at_call 26; (with_reducible refine (within_any _ _ _ _).mono ?_); rintro e w' ⟨rfl, rfl⟩) | fail)
    go_ret
    exact ⟨ret_int (HF.out).symm, by (repeat (first | (with_reducible assumption) | (with_reducible exact Below.refl _ _) | ((with_reducible refine Below.setCell ?_ ?_ _); rotate_left; · (first | omega | (simp; done) | (simp; omega) | (simp at *; omega))) | ((with_reducible refine Below.alloc ?_ ?_ _); rotate_left; · (first | omega | (simp; done) | (simp; omega) | (simp at *; omega))) | (with_reducible refine Below.drew ?_) | (with_reducible refine below_drewN ?_ _) | ((refine Below.trans ?_ (Below.mono (by with_reducible assumption) ?_)); rotate_left; · (first | omega | (simp; done) | (simp; omega) | (simp at *; omega)))))⟩
  have hv := Decidable.not_not.1 hv
  have HV := Lib.hid hv
  by_cases hi : ¬ Within i 1 1099511627776
  · have HF := Lib.hid (err_range HW.out HNF.out HT.out HNN.out (.inr ⟨by unfold namK; dsimp only; omega, hi⟩))
    have dt := decide_eq_true ht
    have dv := decide_eq_true hv
    have di := decide_eq_false hi
    clear ht
    clear hv
    clear hi
    go_enter Try.func11, Try.ntmps11
    go_wp2_with (first | (go_at_call 26; (with_reducible refine (within_any _ _ _ _).mono ?_); rintro e w' ⟨rfl, rfl⟩) | fail)
    go_ret
    exact ⟨ret_int (HF.out).symm, by (repeat (first | (with_reducible assumption) | (with_reducible exact Below.refl _ _) | ((with_reducible refine Below.setCell ?_ ?_ _); rotate_left; · (first | omega | (simp; done) | (simp; omega) | (simp at *; omega))) | ((with_reducible refine Below.alloc ?_ ?_ _); rotate_left; · (first | omega | (simp; done) | (simp; omega) | (simp at *; omega))) | (with_reducible refine Below.drew ?_) | (with_reducible refine below_drewN ?_ _) | ((refine Below.trans ?_ (Below.mono (by with_reducible assumption) ?_)); rotate_left; · (first | omega | (simp; done) | (simp; omega) | (simp at *; omega)))))⟩
  have hi := Decidable.not_not.1 hi
  have HI := Lib.hid hi
  have HF := Lib.hid (err_ok HW.out HNF.out HT.out HNN.out (fun h => h.elim (fun h => h.2 HV.out) (fun h => h.2 HI.out)))
  have dt := decide_eq_true ht
  have dv := decide_eq_true hv
  have di := decide_eq_true hi
  clear ht
  clear hv
  clear hi
  go_enter Try.func11, Try.ntmps11
  go_wp2_with (first | (go_at_call 26; (with_reducible refine (within_any _ _ _ _).mono ?_); rintro e w' ⟨rfl, rfl⟩) | fail)
  go_ret
  exact ⟨ret_int (HF.out).symm, by (repeat (first | (with_reducible assumption) | (with_reducible exact Below.refl _ _) | ((with_reducible refine Below.setCell ?_ ?_ _); rotate_left; · (first | omega | (simp; done) | (simp; omega) | (simp at *; omega))) | ((with_reducible refine Below.alloc ?_ ?_ _); rotate_left; · (first | omega | (simp; done) | (simp; omega) | (simp at *; omega))) | (with_reducible refine Below.drew ?_) | (with_reducible refine below_drewN ?_ _) | ((refine Below.trans ?_ (Below.mono (by with_reducible assumption) ?_)); rotate_left; · (first | omega | (simp; done) | (simp; omega) | (simp at *; omega)))))⟩

set_option maxRecDepth 100000 in
theorem check_not (k t : Int) (g : ByteArray) (v i : Int) (w : World) (hk : ¬ Within k 1 6) :
    Calls Try.prog 11 #[.agg #[.int .i64 k, .int .i64 t, .string g, .int .i64 v, .int .i64 i]] w fun e w' => e = .returned (.int .i64 (recErr ⟨k, t, g, v, i⟩)) ∧ Below w.heap.size w w' := by
  have HF := Lib.hid (err_kind (r := ⟨k, t, g, v, i⟩) hk)
  have e1 : (k == 1) = false := by rw [beq_eq_false_iff_ne]; unfold Within at hk; omega
  have e2 : (k == 2) = false := by rw [beq_eq_false_iff_ne]; unfold Within at hk; omega
  have e3 : (k == 3) = false := by rw [beq_eq_false_iff_ne]; unfold Within at hk; omega
  have e4 : (k == 4) = false := by rw [beq_eq_false_iff_ne]; unfold Within at hk; omega
  have e5 : (k == 5) = false := by rw [beq_eq_false_iff_ne]; unfold Within at hk; omega
  have e6 : (k == 6) = false := by rw [beq_eq_false_iff_ne]; unfold Within at hk; omega
  clear hk
  go_enter Try.func11, Try.ntmps11
  go_wp2_with (first | (go_at_call 26; (with_reducible refine (within_any _ _ _ _).mono ?_); rintro e w' ⟨rfl, rfl⟩) | fail)
  go_ret
  exact ⟨ret_int (HF.out).symm, by (repeat (first | (with_reducible assumption) | (with_reducible exact Below.refl _ _) | ((with_reducible refine Below.setCell ?_ ?_ _); rotate_left; · (first | omega | (simp; done) | (simp; omega) | (simp at *; omega))) | ((with_reducible refine Below.alloc ?_ ?_ _); rotate_left; · (first | omega | (simp; done) | (simp; omega) | (simp at *; omega))) | (with_reducible refine Below.drew ?_) | (with_reducible refine below_drewN ?_ _) | ((refine Below.trans ?_ (Below.mono (by with_reducible assumption) ?_)); rotate_left; · (first | omega | (simp; done) | (simp; omega) | (simp at *; omega)))))⟩

theorem check_any (r : Rec) (w : World) (hg : r.g.size ≤ 9223372036854775807) :
    Calls Try.prog 11 #[.agg r.cells] w fun e w' => e = .returned (.int .i64 (recErr r)) ∧ Below w.heap.size w w' := by
  obtain ⟨k, t, g, v, i⟩ := r
  show Calls Try.prog 11 #[.agg #[.int .i64 k, .int .i64 t, .string g, .int .i64 v, .int .i64 i]] w _
  by_cases hk : Within k 1 6
  · have h6 : k = 1 ∨ k = 2 ∨ k = 3 ∨ k = 4 ∨ k = 5 ∨ k = 6 := by unfold Within at hk; omega
    rcases h6 with rfl | rfl | rfl | rfl | rfl | rfl
    · exact check_1 t g v i w hg
    · exact check_2 t g v i w hg
    · exact check_3 t g v i w hg
    · exact check_4 t g v i w hg
    · exact check_5 t g v i w hg
    · exact check_6 t g v i w hg
  · exact check_not k t g v i w hk
end Go.Proofs.Ytognidoohinipaa
