/-
  What is proved here: what the functions of package slots, and of its reference, answer (chapter 17). Conditions: none beyond each theorem's own.
-/
import Derived.Test.YtaccbkmlkmdmpaaRows
import Derived.Test.YtaccbkmlkmdmpaaSlotLaws
import Derived.Test.YtaccbkmlkmdmpaaCore
import Derived.BigQuiet
import Derived.Deep.QuietTactic
import Derived.Deep.LoopGhost
import Derived.WalkLawsBesides
import Derived.WalkSpells
import Derived.BigGuardPart
namespace Go.Proofs.Ytaccbkmlkmdmpaa
open Go.RowKit Go.Deep

theorem sound_any (s : Slot) (w : World) :
    Calls Try.prog 23 #[.agg #[.int .i64 s.e, .int .i64 s.n, .int .i64 s.f]] w fun e w' => e = .returned (.bool (decide s.Ok)) ∧ Below w.heap.size w w' := by
  go_enter Try.func23, Try.ntmps23
  go_wp2
  all_goals (go_ret; exact ⟨ret_bool (by first | (rw [eq_comm, decide_eq_false_iff_not]; unfold Slot.Ok; omega) | (rw [eq_comm, decide_eq_true_iff]; unfold Slot.Ok; omega) | (rw [decide_eq_decide]; unfold Slot.Ok; omega)), by (repeat (first | (with_reducible assumption) | (with_reducible exact Below.refl _ _) | ((with_reducible refine Below.setCell ?_ ?_ _); rotate_left; · (first | omega | (simp; done) | (simp; omega) | (simp at *; omega))) | ((with_reducible refine Below.alloc ?_ ?_ _); rotate_left; · (first | omega | (simp; done) | (simp; omega) | (simp at *; omega))) | (with_reducible refine Below.drew ?_) | (with_reducible refine below_drewN ?_ _) | ((refine Below.trans ?_ (Below.mono (by with_reducible assumption) ?_)); rotate_left; · (first | omega | (simp; done) | (simp; omega) | (simp at *; omega)))))⟩)

theorem rsound_any (s : Slot) (w : World) :
    Calls Try.prog 24 #[.agg #[.int .i64 s.e, .int .i64 s.n, .int .i64 s.f]] w fun e w' => e = .returned (.bool (decide s.Ok)) ∧ Below w.heap.size w w' := by
  go_enter Try.func24, Try.ntmps24
  go_wp2
  all_goals (go_ret; exact ⟨ret_bool (by first | (rw [eq_comm, decide_eq_false_iff_not]; unfold Slot.Ok; omega) | (rw [eq_comm, decide_eq_true_iff]; unfold Slot.Ok; omega) | (rw [decide_eq_decide]; unfold Slot.Ok; omega)), by (repeat (first | (with_reducible assumption) | (with_reducible exact Below.refl _ _) | ((with_reducible refine Below.setCell ?_ ?_ _); rotate_left; · (first | omega | (simp; done) | (simp; omega) | (simp at *; omega))) | ((with_reducible refine Below.alloc ?_ ?_ _); rotate_left; · (first | omega | (simp; done) | (simp; omega) | (simp at *; omega))) | (with_reducible refine Below.drew ?_) | (with_reducible refine below_drewN ?_ _) | ((refine Below.trans ?_ (Below.mono (by with_reducible assumption) ?_)); rotate_left; · (first | omega | (simp; done) | (simp; omega) | (simp at *; omega)))))⟩)

theorem lsound_any (s : Slot) (w : World) :
    Calls Try.prog 19 #[.agg #[.int .i64 s.e, .int .i64 s.n, .int .i64 s.f]] w fun e w' => e = .returned (.bool (decide s.Ok)) ∧ Below w.heap.size w w' := by
  go_enter Try.func19, Try.ntmps19
  go_wp2
  all_goals (go_ret; exact ⟨ret_bool (by first | (rw [eq_comm, decide_eq_false_iff_not]; unfold Slot.Ok; omega) | (rw [eq_comm, decide_eq_true_iff]; unfold Slot.Ok; omega) | (rw [decide_eq_decide]; unfold Slot.Ok; omega)), by (repeat (first | (with_reducible assumption) | (with_reducible exact Below.refl _ _) | ((with_reducible refine Below.setCell ?_ ?_ _); rotate_left; · (first | omega | (simp; done) | (simp; omega) | (simp at *; omega))) | ((with_reducible refine Below.alloc ?_ ?_ _); rotate_left; · (first | omega | (simp; done) | (simp; omega) | (simp at *; omega))) | (with_reducible refine Below.drew ?_) | (with_reducible refine below_drewN ?_ _) | ((refine Below.trans ?_ (Below.mono (by with_reducible assumption) ?_)); rotate_left; · (first | omega | (simp; done) | (simp; omega) | (simp at *; omega)))))⟩)


theorem sound_yes (s : Slot) (w : World) (h : s.Ok) : Calls Try.prog 23 #[.agg #[.int .i64 s.e, .int .i64 s.n, .int .i64 s.f]] w fun e w' => e = .returned (.bool true) ∧ Below w.heap.size w w' :=
  (sound_any s w).mono fun _ _ ⟨he, hb⟩ => ⟨by rw [he, decide_eq_true h], hb⟩
theorem sound_no (s : Slot) (w : World) (h : ¬ s.Ok) : Calls Try.prog 23 #[.agg #[.int .i64 s.e, .int .i64 s.n, .int .i64 s.f]] w fun e w' => e = .returned (.bool false) ∧ Below w.heap.size w w' :=
  (sound_any s w).mono fun _ _ ⟨he, hb⟩ => ⟨by rw [he, decide_eq_false h], hb⟩

/-- what comes back as a slot. -/
def SlotBack (w : World) (s : Slot) (e : Ending) (w' : World) : Prop := e = .returned (.agg #[.int .i64 s.e, .int .i64 s.n, .int .i64 s.f]) ∧ Below w.heap.size w w'


theorem done_bad (s : Slot) (now : Int) (ok : Bool) (w : World) (h : ¬ s.Ok) :
    Calls Try.prog 17 #[.agg #[.int .i64 s.e, .int .i64 s.n, .int .i64 s.f], .int .i64 now, .bool ok] w (SlotBack w s) := by
  go_enter Try.func17, Try.ntmps17
  go_wp2_with (go_at_call 23; refine (sound_no s _ h).mono ?_; rintro e w1 ⟨rfl, hb1⟩; obtain ⟨b0, b1, b2, b3, b4, b5⟩ := (((Blk.new _ _ _).alloc _).below hb1 (by first | omega | (simp; done) | (simp; omega) | (simp at *; omega))).three; obtain ⟨r0, r1, r2, r3, r4, r5⟩ := ((Blk.new _ _ _).below hb1 (by first | omega | (simp; done) | (simp; omega) | (simp at *; omega))).three; have hz1 := hb1.size; simp only [World.size_alloc] at r0 r1 r2 r3 r4 r5 hz1)
  refine bodyPost_ret (v := .agg #[.int .i64 s.e, .int .i64 s.n, .int .i64 s.f]) ?_ ?_ ?_
  · simp [results, Try.results17, go_sem, r0, r1, r2]
  · rfl
  · exact ⟨rfl, by (repeat (first | (with_reducible assumption) | (with_reducible exact Below.refl _ _) | ((with_reducible refine Below.setCell ?_ ?_ _); rotate_left; · (first | omega | (simp; done) | (simp; omega) | (simp at *; omega))) | ((with_reducible refine Below.alloc ?_ ?_ _); rotate_left; · (first | omega | (simp; done) | (simp; omega) | (simp at *; omega))) | (with_reducible refine Below.drew ?_) | (with_reducible refine below_drewN ?_ _) | ((refine Below.trans ?_ (Below.mono (by with_reducible assumption) ?_)); rotate_left; · (first | omega | (simp; done) | (simp; omega) | (simp at *; omega)))))⟩

theorem done_late (s : Slot) (now : Int) (ok : Bool) (w : World) (h : s.Ok) (ht : now < 0 ∨ 1099511627776 < now) :
    Calls Try.prog 17 #[.agg #[.int .i64 s.e, .int .i64 s.n, .int .i64 s.f], .int .i64 now, .bool ok] w (SlotBack w s) := by
  rcases ht with ht | ht
  all_goals
    go_enter Try.func17, Try.ntmps17
    go_wp2_with (go_at_call 23; refine (sound_yes s _ h).mono ?_; rintro e w1 ⟨rfl, hb1⟩; obtain ⟨b0, b1, b2, b3, b4, b5⟩ := (((Blk.new _ _ _).alloc _).below hb1 (by first | omega | (simp; done) | (simp; omega) | (simp at *; omega))).three; obtain ⟨r0, r1, r2, r3, r4, r5⟩ := ((Blk.new _ _ _).below hb1 (by first | omega | (simp; done) | (simp; omega) | (simp at *; omega))).three; have hz1 := hb1.size; simp only [World.size_alloc] at r0 r1 r2 r3 r4 r5 hz1)
    refine bodyPost_ret (v := .agg #[.int .i64 s.e, .int .i64 s.n, .int .i64 s.f]) ?_ ?_ ?_
    · simp [results, Try.results17, go_sem, r0, r1, r2]
    · rfl
    · exact ⟨rfl, by (repeat (first | (with_reducible assumption) | (with_reducible exact Below.refl _ _) | ((with_reducible refine Below.setCell ?_ ?_ _); rotate_left; · (first | omega | (simp; done) | (simp; omega) | (simp at *; omega))) | ((with_reducible refine Below.alloc ?_ ?_ _); rotate_left; · (first | omega | (simp; done) | (simp; omega) | (simp at *; omega))) | (with_reducible refine Below.drew ?_) | (with_reducible refine below_drewN ?_ _) | ((refine Below.trans ?_ (Below.mono (by with_reducible assumption) ?_)); rotate_left; · (first | omega | (simp; done) | (simp; omega) | (simp at *; omega)))))⟩

theorem mul_div_room (e x : Int) (he : 1 ≤ e) (hx : 0 ≤ x) : 0 ≤ x / e ∧ x / e ≤ x ∧ e * (x / e) ≤ x ∧ 0 ≤ e * (x / e) := by
  have h1 : 0 ≤ x / e := Int.ediv_nonneg hx (by omega)
  have h2 : e * (x / e) ≤ x := Int.mul_ediv_self_le (by omega)
  have h3 : 0 ≤ e * (x / e) := Int.mul_nonneg (by omega) h1
  have h4 : 1 * (x / e) ≤ e * (x / e) := Int.mul_le_mul_of_nonneg_right he h1
  exact ⟨h1, by omega, h2, h3⟩

theorem well_wrap (s : Slot) (now : Int) (h : s.Ok) (ht : TimeOk now) :
    wrap64 (s.n + wrap64 (s.e * wrap64 (1 + (if s.n < now then now - s.n else 0) / s.e))) = (s.well now).n := by
  obtain ⟨h1, h2, h3, h4, h5, h6⟩ := h
  obtain ⟨t1, t2⟩ := ht
  have hm : max 0 (now - s.n) = if s.n < now then now - s.n else 0 := by split <;> omega
  unfold Slot.well
  simp only [hm]
  have hx : 0 ≤ (if s.n < now then now - s.n else 0) ∧ (if s.n < now then now - s.n else 0) ≤ 1099511627776 := by split <;> omega
  generalize (if s.n < now then now - s.n else 0) = x at *
  obtain ⟨q1, q2, q3, q4⟩ := mul_div_room s.e x h1 hx.1
  generalize x / s.e = q at *
  have e1 : wrap64 (1 + q) = 1 + q := IntWalk.wrap64_in _ (by omega)
  rw [e1, Int.mul_add, Int.mul_one]
  generalize s.e * q = r at *
  have e2 : wrap64 (s.e + r) = s.e + r := IntWalk.wrap64_in _ (by omega)
  rw [e2]
  exact IntWalk.wrap64_in _ (by omega)

theorem well_up (s : Slot) (now : Int) (h : s.Ok) (ht : TimeOk now) (hx : s.n < now) :
    wrap64 (s.n + wrap64 (s.e * wrap64 (1 + (now - s.n) / s.e))) = (s.well now).n := by
  have := well_wrap s now h ht
  rw [if_pos hx] at this
  exact this
theorem well_at (s : Slot) (now : Int) (h : s.Ok) (ht : TimeOk now) (hx : ¬ s.n < now) :
    s.n + s.e = (s.well now).n := by
  have := well_wrap s now h ht
  rw [if_neg hx] at this
  obtain ⟨h1, h2, h3, h4, h5, h6⟩ := h
  rw [← this, Int.zero_ediv, IntWalk.wrap64_in (1 + 0) (by omega), Int.add_zero, Int.mul_one, IntWalk.wrap64_in s.e (by omega), IntWalk.wrap64_in _ (by omega)]

set_option maxHeartbeats 1000000 in
theorem done_well (s : Slot) (now : Int) (w : World) (h : s.Ok) (ht : TimeOk now) :
    Calls Try.prog 17 #[.agg #[.int .i64 s.e, .int .i64 s.n, .int .i64 s.f], .int .i64 now, .bool true] w (SlotBack w (s.well now)) := by
  by_cases hx : s.n < now
  · have HN := Lib.hid (well_up s now h ht hx)
    obtain ⟨h1, h2, h3, h4, h5, h6⟩ := id h
    obtain ⟨t1, t2⟩ := ht
    have d1 : decide (now < 0) = false := decide_eq_false (by omega)
    have d2 : decide (1099511627776 < now) = false := decide_eq_false (by omega)
    go_enter Try.func17, Try.ntmps17
    go_wp2_with (go_at_call 23; refine (sound_yes s _ h).mono ?_; rintro e w1 ⟨rfl, hb1⟩; obtain ⟨b0, b1, b2, b3, b4, b5⟩ := (((Blk.new _ _ _).alloc _).below hb1 (by first | omega | (simp; done) | (simp; omega) | (simp at *; omega))).three; obtain ⟨r0, r1, r2, r3, r4, r5⟩ := ((Blk.new _ _ _).below hb1 (by first | omega | (simp; done) | (simp; omega) | (simp at *; omega))).three; have hz1 := hb1.size; simp only [World.size_alloc] at r0 r1 r2 r3 r4 r5 hz1; clear h)
    go_region
    go_wp2
    refine bodyPost_ret (v := .agg #[.int .i64 s.e, .int .i64 (s.well now).n, .int .i64 0]) ?_ ?_ ?_
    · rw [← HN.out]; simp [results, Try.results17, go_sem, r0, r1, r2]
    · rfl
    · exact ⟨rfl, by (repeat (first | (with_reducible assumption) | (with_reducible exact Below.refl _ _) | ((with_reducible refine Below.setCell ?_ ?_ _); rotate_left; · (first | omega | (simp; done) | (simp; omega) | (simp at *; omega))) | ((with_reducible refine Below.alloc ?_ ?_ _); rotate_left; · (first | omega | (simp; done) | (simp; omega) | (simp at *; omega))) | (with_reducible refine Below.drew ?_) | (with_reducible refine below_drewN ?_ _) | ((refine Below.trans ?_ (Below.mono (by with_reducible assumption) ?_)); rotate_left; · (first | omega | (simp; done) | (simp; omega) | (simp at *; omega)))))⟩
  · have HN := Lib.hid (well_at s now h ht hx)
    obtain ⟨h1, h2, h3, h4, h5, h6⟩ := id h
    obtain ⟨t1, t2⟩ := ht
    have d1 : decide (now < 0) = false := decide_eq_false (by omega)
    have d2 : decide (1099511627776 < now) = false := decide_eq_false (by omega)
    go_enter Try.func17, Try.ntmps17
    go_wp2_with (go_at_call 23; refine (sound_yes s _ h).mono ?_; rintro e w1 ⟨rfl, hb1⟩; obtain ⟨b0, b1, b2, b3, b4, b5⟩ := (((Blk.new _ _ _).alloc _).below hb1 (by first | omega | (simp; done) | (simp; omega) | (simp at *; omega))).three; obtain ⟨r0, r1, r2, r3, r4, r5⟩ := ((Blk.new _ _ _).below hb1 (by first | omega | (simp; done) | (simp; omega) | (simp at *; omega))).three; have hz1 := hb1.size; simp only [World.size_alloc] at r0 r1 r2 r3 r4 r5 hz1; clear h)
    go_region
    go_wp2
    refine bodyPost_ret (v := .agg #[.int .i64 s.e, .int .i64 (s.well now).n, .int .i64 0]) ?_ ?_ ?_
    · rw [← HN.out]; simp [results, Try.results17, go_sem, r0, r1, r2]
    · rfl
    · exact ⟨rfl, by (repeat (first | (with_reducible assumption) | (with_reducible exact Below.refl _ _) | ((with_reducible refine Below.setCell ?_ ?_ _); rotate_left; · (first | omega | (simp; done) | (simp; omega) | (simp at *; omega))) | ((with_reducible refine Below.alloc ?_ ?_ _); rotate_left; · (first | omega | (simp; done) | (simp; omega) | (simp at *; omega))) | (with_reducible refine Below.drew ?_) | (with_reducible refine below_drewN ?_ _) | ((refine Below.trans ?_ (Below.mono (by with_reducible assumption) ?_)); rotate_left; · (first | omega | (simp; done) | (simp; omega) | (simp at *; omega)))))⟩

theorem done_ill0 (e n now : Int) (w : World) (h : Slot.Ok ⟨e, n, 0⟩) (ht : TimeOk now) :
    Calls Try.prog 17 #[.agg #[.int .i64 e, .int .i64 n, .int .i64 0], .int .i64 now, .bool false] w (SlotBack w ⟨e, now + e * 2, 1⟩) := by
  have HC := Lib.hid (fun W => sound_yes _ W h)
  obtain ⟨h1, h2, h3, h4, h5, h6⟩ := id h
  simp only at h1 h2 h3 h4
  obtain ⟨t1, t2⟩ := ht
  have d1 : decide (now < 0) = false := decide_eq_false (by omega)
  have d2 : decide (1099511627776 < now) = false := decide_eq_false (by omega)
  clear h h5 h6
  go_enter Try.func17, Try.ntmps17
  go_wp2_with (go_at_call 23; refine (HC.out _).mono ?_; rintro e w1 ⟨rfl, hb1⟩; obtain ⟨b0, b1, b2, b3, b4, b5⟩ := (((Blk.new _ _ _).alloc _).below hb1 (by first | omega | (simp; done) | (simp; omega) | (simp at *; omega))).three; obtain ⟨r0, r1, r2, r3, r4, r5⟩ := ((Blk.new _ _ _).below hb1 (by first | omega | (simp; done) | (simp; omega) | (simp at *; omega))).three; have hz1 := hb1.size; simp only [World.size_alloc] at r0 r1 r2 r3 r4 r5 hz1)
  refine bodyPost_ret (v := .agg #[.int .i64 e, .int .i64 (now + e * 2), .int .i64 1]) ?_ ?_ ?_
  · simp [results, Try.results17, go_sem, r0, r1, r2]
  · rfl
  · exact ⟨rfl, by (repeat (first | (with_reducible assumption) | (with_reducible exact Below.refl _ _) | ((with_reducible refine Below.setCell ?_ ?_ _); rotate_left; · (first | omega | (simp; done) | (simp; omega) | (simp at *; omega))) | ((with_reducible refine Below.alloc ?_ ?_ _); rotate_left; · (first | omega | (simp; done) | (simp; omega) | (simp at *; omega))) | (with_reducible refine Below.drew ?_) | (with_reducible refine below_drewN ?_ _) | ((refine Below.trans ?_ (Below.mono (by with_reducible assumption) ?_)); rotate_left; · (first | omega | (simp; done) | (simp; omega) | (simp at *; omega)))))⟩
theorem done_ill1 (e n now : Int) (w : World) (h : Slot.Ok ⟨e, n, 1⟩) (ht : TimeOk now) :
    Calls Try.prog 17 #[.agg #[.int .i64 e, .int .i64 n, .int .i64 1], .int .i64 now, .bool false] w (SlotBack w ⟨e, now + e * 4, 2⟩) := by
  have HC := Lib.hid (fun W => sound_yes _ W h)
  obtain ⟨h1, h2, h3, h4, h5, h6⟩ := id h
  simp only at h1 h2 h3 h4
  obtain ⟨t1, t2⟩ := ht
  have d1 : decide (now < 0) = false := decide_eq_false (by omega)
  have d2 : decide (1099511627776 < now) = false := decide_eq_false (by omega)
  clear h h5 h6
  go_enter Try.func17, Try.ntmps17
  go_wp2_with (go_at_call 23; refine (HC.out _).mono ?_; rintro e w1 ⟨rfl, hb1⟩; obtain ⟨b0, b1, b2, b3, b4, b5⟩ := (((Blk.new _ _ _).alloc _).below hb1 (by first | omega | (simp; done) | (simp; omega) | (simp at *; omega))).three; obtain ⟨r0, r1, r2, r3, r4, r5⟩ := ((Blk.new _ _ _).below hb1 (by first | omega | (simp; done) | (simp; omega) | (simp at *; omega))).three; have hz1 := hb1.size; simp only [World.size_alloc] at r0 r1 r2 r3 r4 r5 hz1)
  refine bodyPost_ret (v := .agg #[.int .i64 e, .int .i64 (now + e * 4), .int .i64 2]) ?_ ?_ ?_
  · simp [results, Try.results17, go_sem, r0, r1, r2]
  · rfl
  · exact ⟨rfl, by (repeat (first | (with_reducible assumption) | (with_reducible exact Below.refl _ _) | ((with_reducible refine Below.setCell ?_ ?_ _); rotate_left; · (first | omega | (simp; done) | (simp; omega) | (simp at *; omega))) | ((with_reducible refine Below.alloc ?_ ?_ _); rotate_left; · (first | omega | (simp; done) | (simp; omega) | (simp at *; omega))) | (with_reducible refine Below.drew ?_) | (with_reducible refine below_drewN ?_ _) | ((refine Below.trans ?_ (Below.mono (by with_reducible assumption) ?_)); rotate_left; · (first | omega | (simp; done) | (simp; omega) | (simp at *; omega)))))⟩
theorem done_ill2 (e n now : Int) (w : World) (h : Slot.Ok ⟨e, n, 2⟩) (ht : TimeOk now) :
    Calls Try.prog 17 #[.agg #[.int .i64 e, .int .i64 n, .int .i64 2], .int .i64 now, .bool false] w (SlotBack w ⟨e, now + e * 8, 3⟩) := by
  have HC := Lib.hid (fun W => sound_yes _ W h)
  obtain ⟨h1, h2, h3, h4, h5, h6⟩ := id h
  simp only at h1 h2 h3 h4
  obtain ⟨t1, t2⟩ := ht
  have d1 : decide (now < 0) = false := decide_eq_false (by omega)
  have d2 : decide (1099511627776 < now) = false := decide_eq_false (by omega)
  clear h h5 h6
  go_enter Try.func17, Try.ntmps17
  go_wp2_with (go_at_call 23; refine (HC.out _).mono ?_; rintro e w1 ⟨rfl, hb1⟩; obtain ⟨b0, b1, b2, b3, b4, b5⟩ := (((Blk.new _ _ _).alloc _).below hb1 (by first | omega | (simp; done) | (simp; omega) | (simp at *; omega))).three; obtain ⟨r0, r1, r2, r3, r4, r5⟩ := ((Blk.new _ _ _).below hb1 (by first | omega | (simp; done) | (simp; omega) | (simp at *; omega))).three; have hz1 := hb1.size; simp only [World.size_alloc] at r0 r1 r2 r3 r4 r5 hz1)
  refine bodyPost_ret (v := .agg #[.int .i64 e, .int .i64 (now + e * 8), .int .i64 3]) ?_ ?_ ?_
  · simp [results, Try.results17, go_sem, r0, r1, r2]
  · rfl
  · exact ⟨rfl, by (repeat (first | (with_reducible assumption) | (with_reducible exact Below.refl _ _) | ((with_reducible refine Below.setCell ?_ ?_ _); rotate_left; · (first | omega | (simp; done) | (simp; omega) | (simp at *; omega))) | ((with_reducible refine Below.alloc ?_ ?_ _); rotate_left; · (first | omega | (simp; done) | (simp; omega) | (simp at *; omega))) | (with_reducible refine Below.drew ?_) | (with_reducible refine below_drewN ?_ _) | ((refine Below.trans ?_ (Below.mono (by with_reducible assumption) ?_)); rotate_left; · (first | omega | (simp; done) | (simp; omega) | (simp at *; omega)))))⟩
theorem done_ill3 (e n now : Int) (w : World) (h : Slot.Ok ⟨e, n, 3⟩) (ht : TimeOk now) :
    Calls Try.prog 17 #[.agg #[.int .i64 e, .int .i64 n, .int .i64 3], .int .i64 now, .bool false] w (SlotBack w ⟨e, now + e * 16, 4⟩) := by
  have HC := Lib.hid (fun W => sound_yes _ W h)
  obtain ⟨h1, h2, h3, h4, h5, h6⟩ := id h
  simp only at h1 h2 h3 h4
  obtain ⟨t1, t2⟩ := ht
  have d1 : decide (now < 0) = false := decide_eq_false (by omega)
  have d2 : decide (1099511627776 < now) = false := decide_eq_false (by omega)
  clear h h5 h6
  go_enter Try.func17, Try.ntmps17
  go_wp2_with (go_at_call 23; refine (HC.out _).mono ?_; rintro e w1 ⟨rfl, hb1⟩; obtain ⟨b0, b1, b2, b3, b4, b5⟩ := (((Blk.new _ _ _).alloc _).below hb1 (by first | omega | (simp; done) | (simp; omega) | (simp at *; omega))).three; obtain ⟨r0, r1, r2, r3, r4, r5⟩ := ((Blk.new _ _ _).below hb1 (by first | omega | (simp; done) | (simp; omega) | (simp at *; omega))).three; have hz1 := hb1.size; simp only [World.size_alloc] at r0 r1 r2 r3 r4 r5 hz1)
  refine bodyPost_ret (v := .agg #[.int .i64 e, .int .i64 (now + e * 16), .int .i64 4]) ?_ ?_ ?_
  · simp [results, Try.results17, go_sem, r0, r1, r2]
  · rfl
  · exact ⟨rfl, by (repeat (first | (with_reducible assumption) | (with_reducible exact Below.refl _ _) | ((with_reducible refine Below.setCell ?_ ?_ _); rotate_left; · (first | omega | (simp; done) | (simp; omega) | (simp at *; omega))) | ((with_reducible refine Below.alloc ?_ ?_ _); rotate_left; · (first | omega | (simp; done) | (simp; omega) | (simp at *; omega))) | (with_reducible refine Below.drew ?_) | (with_reducible refine below_drewN ?_ _) | ((refine Below.trans ?_ (Below.mono (by with_reducible assumption) ?_)); rotate_left; · (first | omega | (simp; done) | (simp; omega) | (simp at *; omega)))))⟩
theorem done_ill4 (e n now : Int) (w : World) (h : Slot.Ok ⟨e, n, 4⟩) (ht : TimeOk now) :
    Calls Try.prog 17 #[.agg #[.int .i64 e, .int .i64 n, .int .i64 4], .int .i64 now, .bool false] w (SlotBack w ⟨e, now + e * 32, 5⟩) := by
  have HC := Lib.hid (fun W => sound_yes _ W h)
  obtain ⟨h1, h2, h3, h4, h5, h6⟩ := id h
  simp only at h1 h2 h3 h4
  obtain ⟨t1, t2⟩ := ht
  have d1 : decide (now < 0) = false := decide_eq_false (by omega)
  have d2 : decide (1099511627776 < now) = false := decide_eq_false (by omega)
  clear h h5 h6
  go_enter Try.func17, Try.ntmps17
  go_wp2_with (go_at_call 23; refine (HC.out _).mono ?_; rintro e w1 ⟨rfl, hb1⟩; obtain ⟨b0, b1, b2, b3, b4, b5⟩ := (((Blk.new _ _ _).alloc _).below hb1 (by first | omega | (simp; done) | (simp; omega) | (simp at *; omega))).three; obtain ⟨r0, r1, r2, r3, r4, r5⟩ := ((Blk.new _ _ _).below hb1 (by first | omega | (simp; done) | (simp; omega) | (simp at *; omega))).three; have hz1 := hb1.size; simp only [World.size_alloc] at r0 r1 r2 r3 r4 r5 hz1)
  refine bodyPost_ret (v := .agg #[.int .i64 e, .int .i64 (now + e * 32), .int .i64 5]) ?_ ?_ ?_
  · simp [results, Try.results17, go_sem, r0, r1, r2]
  · rfl
  · exact ⟨rfl, by (repeat (first | (with_reducible assumption) | (with_reducible exact Below.refl _ _) | ((with_reducible refine Below.setCell ?_ ?_ _); rotate_left; · (first | omega | (simp; done) | (simp; omega) | (simp at *; omega))) | ((with_reducible refine Below.alloc ?_ ?_ _); rotate_left; · (first | omega | (simp; done) | (simp; omega) | (simp at *; omega))) | (with_reducible refine Below.drew ?_) | (with_reducible refine below_drewN ?_ _) | ((refine Below.trans ?_ (Below.mono (by with_reducible assumption) ?_)); rotate_left; · (first | omega | (simp; done) | (simp; omega) | (simp at *; omega)))))⟩
theorem done_ill5 (e n now : Int) (w : World) (h : Slot.Ok ⟨e, n, 5⟩) (ht : TimeOk now) :
    Calls Try.prog 17 #[.agg #[.int .i64 e, .int .i64 n, .int .i64 5], .int .i64 now, .bool false] w (SlotBack w ⟨e, now + e * 32, 6⟩) := by
  have HC := Lib.hid (fun W => sound_yes _ W h)
  obtain ⟨h1, h2, h3, h4, h5, h6⟩ := id h
  simp only at h1 h2 h3 h4
  obtain ⟨t1, t2⟩ := ht
  have d1 : decide (now < 0) = false := decide_eq_false (by omega)
  have d2 : decide (1099511627776 < now) = false := decide_eq_false (by omega)
  clear h h5 h6
  go_enter Try.func17, Try.ntmps17
  go_wp2_with (go_at_call 23; refine (HC.out _).mono ?_; rintro e w1 ⟨rfl, hb1⟩; obtain ⟨b0, b1, b2, b3, b4, b5⟩ := (((Blk.new _ _ _).alloc _).below hb1 (by first | omega | (simp; done) | (simp; omega) | (simp at *; omega))).three; obtain ⟨r0, r1, r2, r3, r4, r5⟩ := ((Blk.new _ _ _).below hb1 (by first | omega | (simp; done) | (simp; omega) | (simp at *; omega))).three; have hz1 := hb1.size; simp only [World.size_alloc] at r0 r1 r2 r3 r4 r5 hz1)
  refine bodyPost_ret (v := .agg #[.int .i64 e, .int .i64 (now + e * 32), .int .i64 6]) ?_ ?_ ?_
  · simp [results, Try.results17, go_sem, r0, r1, r2]
  · rfl
  · exact ⟨rfl, by (repeat (first | (with_reducible assumption) | (with_reducible exact Below.refl _ _) | ((with_reducible refine Below.setCell ?_ ?_ _); rotate_left; · (first | omega | (simp; done) | (simp; omega) | (simp at *; omega))) | ((with_reducible refine Below.alloc ?_ ?_ _); rotate_left; · (first | omega | (simp; done) | (simp; omega) | (simp at *; omega))) | (with_reducible refine Below.drew ?_) | (with_reducible refine below_drewN ?_ _) | ((refine Below.trans ?_ (Below.mono (by with_reducible assumption) ?_)); rotate_left; · (first | omega | (simp; done) | (simp; omega) | (simp at *; omega)))))⟩
theorem done_ill6 (e n now : Int) (w : World) (h : Slot.Ok ⟨e, n, 6⟩) (ht : TimeOk now) :
    Calls Try.prog 17 #[.agg #[.int .i64 e, .int .i64 n, .int .i64 6], .int .i64 now, .bool false] w (SlotBack w ⟨e, now + e * 32, 7⟩) := by
  have HC := Lib.hid (fun W => sound_yes _ W h)
  obtain ⟨h1, h2, h3, h4, h5, h6⟩ := id h
  simp only at h1 h2 h3 h4
  obtain ⟨t1, t2⟩ := ht
  have d1 : decide (now < 0) = false := decide_eq_false (by omega)
  have d2 : decide (1099511627776 < now) = false := decide_eq_false (by omega)
  clear h h5 h6
  go_enter Try.func17, Try.ntmps17
  go_wp2_with (go_at_call 23; refine (HC.out _).mono ?_; rintro e w1 ⟨rfl, hb1⟩; obtain ⟨b0, b1, b2, b3, b4, b5⟩ := (((Blk.new _ _ _).alloc _).below hb1 (by first | omega | (simp; done) | (simp; omega) | (simp at *; omega))).three; obtain ⟨r0, r1, r2, r3, r4, r5⟩ := ((Blk.new _ _ _).below hb1 (by first | omega | (simp; done) | (simp; omega) | (simp at *; omega))).three; have hz1 := hb1.size; simp only [World.size_alloc] at r0 r1 r2 r3 r4 r5 hz1)
  refine bodyPost_ret (v := .agg #[.int .i64 e, .int .i64 (now + e * 32), .int .i64 7]) ?_ ?_ ?_
  · simp [results, Try.results17, go_sem, r0, r1, r2]
  · rfl
  · exact ⟨rfl, by (repeat (first | (with_reducible assumption) | (with_reducible exact Below.refl _ _) | ((with_reducible refine Below.setCell ?_ ?_ _); rotate_left; · (first | omega | (simp; done) | (simp; omega) | (simp at *; omega))) | ((with_reducible refine Below.alloc ?_ ?_ _); rotate_left; · (first | omega | (simp; done) | (simp; omega) | (simp at *; omega))) | (with_reducible refine Below.drew ?_) | (with_reducible refine below_drewN ?_ _) | ((refine Below.trans ?_ (Below.mono (by with_reducible assumption) ?_)); rotate_left; · (first | omega | (simp; done) | (simp; omega) | (simp at *; omega)))))⟩
theorem done_ill7 (e n now : Int) (w : World) (h : Slot.Ok ⟨e, n, 7⟩) (ht : TimeOk now) :
    Calls Try.prog 17 #[.agg #[.int .i64 e, .int .i64 n, .int .i64 7], .int .i64 now, .bool false] w (SlotBack w ⟨e, now + e * 32, 8⟩) := by
  have HC := Lib.hid (fun W => sound_yes _ W h)
  obtain ⟨h1, h2, h3, h4, h5, h6⟩ := id h
  simp only at h1 h2 h3 h4
  obtain ⟨t1, t2⟩ := ht
  have d1 : decide (now < 0) = false := decide_eq_false (by omega)
  have d2 : decide (1099511627776 < now) = false := decide_eq_false (by omega)
  clear h h5 h6
  go_enter Try.func17, Try.ntmps17
  go_wp2_with (go_at_call 23; refine (HC.out _).mono ?_; rintro e w1 ⟨rfl, hb1⟩; obtain ⟨b0, b1, b2, b3, b4, b5⟩ := (((Blk.new _ _ _).alloc _).below hb1 (by first | omega | (simp; done) | (simp; omega) | (simp at *; omega))).three; obtain ⟨r0, r1, r2, r3, r4, r5⟩ := ((Blk.new _ _ _).below hb1 (by first | omega | (simp; done) | (simp; omega) | (simp at *; omega))).three; have hz1 := hb1.size; simp only [World.size_alloc] at r0 r1 r2 r3 r4 r5 hz1)
  refine bodyPost_ret (v := .agg #[.int .i64 e, .int .i64 (now + e * 32), .int .i64 8]) ?_ ?_ ?_
  · simp [results, Try.results17, go_sem, r0, r1, r2]
  · rfl
  · exact ⟨rfl, by (repeat (first | (with_reducible assumption) | (with_reducible exact Below.refl _ _) | ((with_reducible refine Below.setCell ?_ ?_ _); rotate_left; · (first | omega | (simp; done) | (simp; omega) | (simp at *; omega))) | ((with_reducible refine Below.alloc ?_ ?_ _); rotate_left; · (first | omega | (simp; done) | (simp; omega) | (simp at *; omega))) | (with_reducible refine Below.drew ?_) | (with_reducible refine below_drewN ?_ _) | ((refine Below.trans ?_ (Below.mono (by with_reducible assumption) ?_)); rotate_left; · (first | omega | (simp; done) | (simp; omega) | (simp at *; omega)))))⟩
theorem done_ill8 (e n now : Int) (w : World) (h : Slot.Ok ⟨e, n, 8⟩) (ht : TimeOk now) :
    Calls Try.prog 17 #[.agg #[.int .i64 e, .int .i64 n, .int .i64 8], .int .i64 now, .bool false] w (SlotBack w ⟨e, now + e * 32, 9⟩) := by
  have HC := Lib.hid (fun W => sound_yes _ W h)
  obtain ⟨h1, h2, h3, h4, h5, h6⟩ := id h
  simp only at h1 h2 h3 h4
  obtain ⟨t1, t2⟩ := ht
  have d1 : decide (now < 0) = false := decide_eq_false (by omega)
  have d2 : decide (1099511627776 < now) = false := decide_eq_false (by omega)
  clear h h5 h6
  go_enter Try.func17, Try.ntmps17
  go_wp2_with (go_at_call 23; refine (HC.out _).mono ?_; rintro e w1 ⟨rfl, hb1⟩; obtain ⟨b0, b1, b2, b3, b4, b5⟩ := (((Blk.new _ _ _).alloc _).below hb1 (by first | omega | (simp; done) | (simp; omega) | (simp at *; omega))).three; obtain ⟨r0, r1, r2, r3, r4, r5⟩ := ((Blk.new _ _ _).below hb1 (by first | omega | (simp; done) | (simp; omega) | (simp at *; omega))).three; have hz1 := hb1.size; simp only [World.size_alloc] at r0 r1 r2 r3 r4 r5 hz1)
  refine bodyPost_ret (v := .agg #[.int .i64 e, .int .i64 (now + e * 32), .int .i64 9]) ?_ ?_ ?_
  · simp [results, Try.results17, go_sem, r0, r1, r2]
  · rfl
  · exact ⟨rfl, by (repeat (first | (with_reducible assumption) | (with_reducible exact Below.refl _ _) | ((with_reducible refine Below.setCell ?_ ?_ _); rotate_left; · (first | omega | (simp; done) | (simp; omega) | (simp at *; omega))) | ((with_reducible refine Below.alloc ?_ ?_ _); rotate_left; · (first | omega | (simp; done) | (simp; omega) | (simp at *; omega))) | (with_reducible refine Below.drew ?_) | (with_reducible refine below_drewN ?_ _) | ((refine Below.trans ?_ (Below.mono (by with_reducible assumption) ?_)); rotate_left; · (first | omega | (simp; done) | (simp; omega) | (simp at *; omega)))))⟩
theorem done_ill9 (e n now : Int) (w : World) (h : Slot.Ok ⟨e, n, 9⟩) (ht : TimeOk now) :
    Calls Try.prog 17 #[.agg #[.int .i64 e, .int .i64 n, .int .i64 9], .int .i64 now, .bool false] w (SlotBack w ⟨e, now + e * 32, 10⟩) := by
  have HC := Lib.hid (fun W => sound_yes _ W h)
  obtain ⟨h1, h2, h3, h4, h5, h6⟩ := id h
  simp only at h1 h2 h3 h4
  obtain ⟨t1, t2⟩ := ht
  have d1 : decide (now < 0) = false := decide_eq_false (by omega)
  have d2 : decide (1099511627776 < now) = false := decide_eq_false (by omega)
  clear h h5 h6
  go_enter Try.func17, Try.ntmps17
  go_wp2_with (go_at_call 23; refine (HC.out _).mono ?_; rintro e w1 ⟨rfl, hb1⟩; obtain ⟨b0, b1, b2, b3, b4, b5⟩ := (((Blk.new _ _ _).alloc _).below hb1 (by first | omega | (simp; done) | (simp; omega) | (simp at *; omega))).three; obtain ⟨r0, r1, r2, r3, r4, r5⟩ := ((Blk.new _ _ _).below hb1 (by first | omega | (simp; done) | (simp; omega) | (simp at *; omega))).three; have hz1 := hb1.size; simp only [World.size_alloc] at r0 r1 r2 r3 r4 r5 hz1)
  refine bodyPost_ret (v := .agg #[.int .i64 e, .int .i64 (now + e * 32), .int .i64 10]) ?_ ?_ ?_
  · simp [results, Try.results17, go_sem, r0, r1, r2]
  · rfl
  · exact ⟨rfl, by (repeat (first | (with_reducible assumption) | (with_reducible exact Below.refl _ _) | ((with_reducible refine Below.setCell ?_ ?_ _); rotate_left; · (first | omega | (simp; done) | (simp; omega) | (simp at *; omega))) | ((with_reducible refine Below.alloc ?_ ?_ _); rotate_left; · (first | omega | (simp; done) | (simp; omega) | (simp at *; omega))) | (with_reducible refine Below.drew ?_) | (with_reducible refine below_drewN ?_ _) | ((refine Below.trans ?_ (Below.mono (by with_reducible assumption) ?_)); rotate_left; · (first | omega | (simp; done) | (simp; omega) | (simp at *; omega)))))⟩
theorem done_ill10 (e n now : Int) (w : World) (h : Slot.Ok ⟨e, n, 10⟩) (ht : TimeOk now) :
    Calls Try.prog 17 #[.agg #[.int .i64 e, .int .i64 n, .int .i64 10], .int .i64 now, .bool false] w (SlotBack w ⟨e, now + e * 32, 10⟩) := by
  have HC := Lib.hid (fun W => sound_yes _ W h)
  obtain ⟨h1, h2, h3, h4, h5, h6⟩ := id h
  simp only at h1 h2 h3 h4
  obtain ⟨t1, t2⟩ := ht
  have d1 : decide (now < 0) = false := decide_eq_false (by omega)
  have d2 : decide (1099511627776 < now) = false := decide_eq_false (by omega)
  clear h h5 h6
  go_enter Try.func17, Try.ntmps17
  go_wp2_with (go_at_call 23; refine (HC.out _).mono ?_; rintro e w1 ⟨rfl, hb1⟩; obtain ⟨b0, b1, b2, b3, b4, b5⟩ := (((Blk.new _ _ _).alloc _).below hb1 (by first | omega | (simp; done) | (simp; omega) | (simp at *; omega))).three; obtain ⟨r0, r1, r2, r3, r4, r5⟩ := ((Blk.new _ _ _).below hb1 (by first | omega | (simp; done) | (simp; omega) | (simp at *; omega))).three; have hz1 := hb1.size; simp only [World.size_alloc] at r0 r1 r2 r3 r4 r5 hz1)
  refine bodyPost_ret (v := .agg #[.int .i64 e, .int .i64 (now + e * 32), .int .i64 10]) ?_ ?_ ?_
  · simp [results, Try.results17, go_sem, r0, r1, r2]
  · rfl
  · exact ⟨rfl, by (repeat (first | (with_reducible assumption) | (with_reducible exact Below.refl _ _) | ((with_reducible refine Below.setCell ?_ ?_ _); rotate_left; · (first | omega | (simp; done) | (simp; omega) | (simp at *; omega))) | ((with_reducible refine Below.alloc ?_ ?_ _); rotate_left; · (first | omega | (simp; done) | (simp; omega) | (simp at *; omega))) | (with_reducible refine Below.drew ?_) | (with_reducible refine below_drewN ?_ _) | ((refine Below.trans ?_ (Below.mono (by with_reducible assumption) ?_)); rotate_left; · (first | omega | (simp; done) | (simp; omega) | (simp at *; omega)))))⟩
theorem done_ill (s : Slot) (now : Int) (w : World) (h : s.Ok) (ht : TimeOk now) :
    Calls Try.prog 17 #[.agg #[.int .i64 s.e, .int .i64 s.n, .int .i64 s.f], .int .i64 now, .bool false] w (SlotBack w (s.ill now)) := by
  obtain ⟨e, n, f⟩ := s
  have hf : f = 0 ∨ f = 1 ∨ f = 2 ∨ f = 3 ∨ f = 4 ∨ f = 5 ∨ f = 6 ∨ f = 7 ∨ f = 8 ∨ f = 9 ∨ f = 10 := by
    obtain ⟨_, _, _, _, h5, h6⟩ := h
    simp only at h5 h6
    omega
  rcases hf with rfl | rfl | rfl | rfl | rfl | rfl | rfl | rfl | rfl | rfl | rfl
  · have hi : Slot.ill ⟨e, n, 0⟩ now = ⟨e, now + e * 2, 1⟩ := by simp [Slot.ill, waitOf]; try omega
    rw [hi]
    exact done_ill0 e n now w h ht
  · have hi : Slot.ill ⟨e, n, 1⟩ now = ⟨e, now + e * 4, 2⟩ := by simp [Slot.ill, waitOf]; try omega
    rw [hi]
    exact done_ill1 e n now w h ht
  · have hi : Slot.ill ⟨e, n, 2⟩ now = ⟨e, now + e * 8, 3⟩ := by simp [Slot.ill, waitOf]; try omega
    rw [hi]
    exact done_ill2 e n now w h ht
  · have hi : Slot.ill ⟨e, n, 3⟩ now = ⟨e, now + e * 16, 4⟩ := by simp [Slot.ill, waitOf]; try omega
    rw [hi]
    exact done_ill3 e n now w h ht
  · have hi : Slot.ill ⟨e, n, 4⟩ now = ⟨e, now + e * 32, 5⟩ := by simp [Slot.ill, waitOf]; try omega
    rw [hi]
    exact done_ill4 e n now w h ht
  · have hi : Slot.ill ⟨e, n, 5⟩ now = ⟨e, now + e * 32, 6⟩ := by simp [Slot.ill, waitOf]; try omega
    rw [hi]
    exact done_ill5 e n now w h ht
  · have hi : Slot.ill ⟨e, n, 6⟩ now = ⟨e, now + e * 32, 7⟩ := by simp [Slot.ill, waitOf]; try omega
    rw [hi]
    exact done_ill6 e n now w h ht
  · have hi : Slot.ill ⟨e, n, 7⟩ now = ⟨e, now + e * 32, 8⟩ := by simp [Slot.ill, waitOf]; try omega
    rw [hi]
    exact done_ill7 e n now w h ht
  · have hi : Slot.ill ⟨e, n, 8⟩ now = ⟨e, now + e * 32, 9⟩ := by simp [Slot.ill, waitOf]; try omega
    rw [hi]
    exact done_ill8 e n now w h ht
  · have hi : Slot.ill ⟨e, n, 9⟩ now = ⟨e, now + e * 32, 10⟩ := by simp [Slot.ill, waitOf]; try omega
    rw [hi]
    exact done_ill9 e n now w h ht
  · have hi : Slot.ill ⟨e, n, 10⟩ now = ⟨e, now + e * 32, 10⟩ := by simp [Slot.ill, waitOf]; try omega
    rw [hi]
    exact done_ill10 e n now w h ht

theorem done_any (s : Slot) (now : Int) (ok : Bool) (w : World) :
    Calls Try.prog 17 #[.agg #[.int .i64 s.e, .int .i64 s.n, .int .i64 s.f], .int .i64 now, .bool ok] w (SlotBack w (s.done now ok)) := by
  by_cases h : s.Ok
  · by_cases ht : TimeOk now
    · cases ok
      · have hd : s.done now false = s.ill now := by simp [Slot.done, h, ht]
        rw [hd]
        exact done_ill s now w h ht
      · have hd : s.done now true = s.well now := by simp [Slot.done, h, ht]
        rw [hd]
        exact done_well s now w h ht
    · have hd : s.done now ok = s := by simp [Slot.done, ht]
      rw [hd]
      exact done_late s now ok w h (by unfold TimeOk at ht; omega)
  · have hd : s.done now ok = s := by simp [Slot.done, h]
    rw [hd]
    exact done_bad s now ok w h
end Go.Proofs.Ytaccbkmlkmdmpaa
