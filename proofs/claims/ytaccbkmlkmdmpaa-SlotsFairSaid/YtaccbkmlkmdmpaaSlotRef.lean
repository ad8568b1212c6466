/-
  What is proved here: what the reference of chapter 17 makes of a slot, and what New makes, there and here. Conditions: none beyond each theorem's own.
-/
import Derived.Test.YtaccbkmlkmdmpaaSlotDone
namespace Go.Proofs.Ytaccbkmlkmdmpaa
open Go.RowKit Go.Deep

theorem rsound_yes (s : Slot) (w : World) (h : s.Ok) : Calls Try.prog 24 #[.agg #[.int .i64 s.e, .int .i64 s.n, .int .i64 s.f]] w fun e w' => e = .returned (.bool true) ∧ Below w.heap.size w w' :=
  (rsound_any s w).mono fun _ _ ⟨he, hb⟩ => ⟨by rw [he, decide_eq_true h], hb⟩
theorem rsound_no (s : Slot) (w : World) (h : ¬ s.Ok) : Calls Try.prog 24 #[.agg #[.int .i64 s.e, .int .i64 s.n, .int .i64 s.f]] w fun e w' => e = .returned (.bool false) ∧ Below w.heap.size w w' :=
  (rsound_any s w).mono fun _ _ ⟨he, hb⟩ => ⟨by rw [he, decide_eq_false h], hb⟩

theorem rdone_bad (s : Slot) (now : Int) (ok : Bool) (w : World) (h : ¬ s.Ok) :
    Calls Try.prog 18 #[.agg #[.int .i64 s.e, .int .i64 s.n, .int .i64 s.f], .int .i64 now, .bool ok] w (SlotBack w s) := by
  go_enter Try.func18, Try.ntmps18
  go_wp2_with (go_at_call 24; refine (rsound_no s _ h).mono ?_; rintro e w1 ⟨rfl, hb1⟩; obtain ⟨b0, b1, b2, b3, b4, b5⟩ := (((Blk.new _ _ _).alloc _).below hb1 (by first | omega | (simp; done) | (simp; omega) | (simp at *; omega))).three; obtain ⟨r0, r1, r2, r3, r4, r5⟩ := ((Blk.new _ _ _).below hb1 (by first | omega | (simp; done) | (simp; omega) | (simp at *; omega))).three; have hz1 := hb1.size; simp only [World.size_alloc] at r0 r1 r2 r3 r4 r5 hz1)
  refine bodyPost_ret (v := .agg #[.int .i64 s.e, .int .i64 s.n, .int .i64 s.f]) ?_ ?_ ?_
  · simp [results, Try.results18, go_sem, r0, r1, r2]
  · rfl
  · exact ⟨rfl, by (repeat (first | (with_reducible assumption) | (with_reducible exact Below.refl _ _) | ((with_reducible refine Below.setCell ?_ ?_ _); rotate_left; · (first | omega | (simp; done) | (simp; omega) | (simp at *; omega))) | ((with_reducible refine Below.alloc ?_ ?_ _); rotate_left; · (first | omega | (simp; done) | (simp; omega) | (simp at *; omega))) | (with_reducible refine Below.drew ?_) | (with_reducible refine below_drewN ?_ _) | ((refine Below.trans ?_ (Below.mono (by with_reducible assumption) ?_)); rotate_left; · (first | omega | (simp; done) | (simp; omega) | (simp at *; omega)))))⟩

theorem rdone_late (s : Slot) (now : Int) (ok : Bool) (w : World) (h : s.Ok) (ht : now < 0 ∨ 1099511627776 < now) :
    Calls Try.prog 18 #[.agg #[.int .i64 s.e, .int .i64 s.n, .int .i64 s.f], .int .i64 now, .bool ok] w (SlotBack w s) := by
  rcases ht with ht | ht
  all_goals
    go_enter Try.func18, Try.ntmps18
    go_wp2_with (go_at_call 24; refine (rsound_yes s _ h).mono ?_; rintro e w1 ⟨rfl, hb1⟩; obtain ⟨b0, b1, b2, b3, b4, b5⟩ := (((Blk.new _ _ _).alloc _).below hb1 (by first | omega | (simp; done) | (simp; omega) | (simp at *; omega))).three; obtain ⟨r0, r1, r2, r3, r4, r5⟩ := ((Blk.new _ _ _).below hb1 (by first | omega | (simp; done) | (simp; omega) | (simp at *; omega))).three; have hz1 := hb1.size; simp only [World.size_alloc] at r0 r1 r2 r3 r4 r5 hz1)
    refine bodyPost_ret (v := .agg #[.int .i64 s.e, .int .i64 s.n, .int .i64 s.f]) ?_ ?_ ?_
    · simp [results, Try.results18, go_sem, r0, r1, r2]
    · rfl
    · exact ⟨rfl, by (repeat (first | (with_reducible assumption) | (with_reducible exact Below.refl _ _) | ((with_reducible refine Below.setCell ?_ ?_ _); rotate_left; · (first | omega | (simp; done) | (simp; omega) | (simp at *; omega))) | ((with_reducible refine Below.alloc ?_ ?_ _); rotate_left; · (first | omega | (simp; done) | (simp; omega) | (simp at *; omega))) | (with_reducible refine Below.drew ?_) | (with_reducible refine below_drewN ?_ _) | ((refine Below.trans ?_ (Below.mono (by with_reducible assumption) ?_)); rotate_left; · (first | omega | (simp; done) | (simp; omega) | (simp at *; omega)))))⟩

theorem rwell_up (s : Slot) (now : Int) (h : s.Ok) (ht : TimeOk now) (hx : s.n + s.e ≤ now) :
    wrap64 (s.n + wrap64 (wrap64 ((now - s.n) / s.e + 1) * s.e)) = (s.well now).n := by
  rw [Int.add_comm _ 1, Int.mul_comm, well_up s now h ht]
  obtain ⟨h1, h2, h3, h4, h5, h6⟩ := h
  omega
theorem rwell_at (s : Slot) (now : Int) (h : s.Ok) (hx : ¬ s.n + s.e ≤ now) :
    s.n + s.e = (s.well now).n := by
  obtain ⟨h1, h2, h3, h4, h5, h6⟩ := h
  unfold Slot.well
  have : max 0 (now - s.n) / s.e = 0 := Int.ediv_eq_zero_of_lt (by omega) (by omega)
  simp only [this]
  omega

set_option maxHeartbeats 1000000 in
theorem rdone_well (s : Slot) (now : Int) (w : World) (h : s.Ok) (ht : TimeOk now) :
    Calls Try.prog 18 #[.agg #[.int .i64 s.e, .int .i64 s.n, .int .i64 s.f], .int .i64 now, .bool true] w (SlotBack w (s.well now)) := by
  by_cases hx : s.n + s.e ≤ now
  · have HN := Lib.hid (rwell_up s now h ht hx)
    obtain ⟨h1, h2, h3, h4, h5, h6⟩ := id h
    obtain ⟨t1, t2⟩ := ht
    have d1 : decide (now < 0) = false := decide_eq_false (by omega)
    have d2 : decide (1099511627776 < now) = false := decide_eq_false (by omega)
    go_enter Try.func18, Try.ntmps18
    go_wp2_with (go_at_call 24; refine (rsound_yes s _ h).mono ?_; rintro e w1 ⟨rfl, hb1⟩; obtain ⟨b0, b1, b2, b3, b4, b5⟩ := (((Blk.new _ _ _).alloc _).below hb1 (by first | omega | (simp; done) | (simp; omega) | (simp at *; omega))).three; obtain ⟨r0, r1, r2, r3, r4, r5⟩ := ((Blk.new _ _ _).below hb1 (by first | omega | (simp; done) | (simp; omega) | (simp at *; omega))).three; have hz1 := hb1.size; simp only [World.size_alloc] at r0 r1 r2 r3 r4 r5 hz1; clear h)
    refine bodyPost_ret (v := .agg #[.int .i64 s.e, .int .i64 (s.well now).n, .int .i64 0]) ?_ ?_ ?_
    · rw [← HN.out]; simp [results, Try.results18, go_sem, r0, r1, r2]
    · rfl
    · exact ⟨rfl, by (repeat (first | (with_reducible assumption) | (with_reducible exact Below.refl _ _) | ((with_reducible refine Below.setCell ?_ ?_ _); rotate_left; · (first | omega | (simp; done) | (simp; omega) | (simp at *; omega))) | ((with_reducible refine Below.alloc ?_ ?_ _); rotate_left; · (first | omega | (simp; done) | (simp; omega) | (simp at *; omega))) | (with_reducible refine Below.drew ?_) | (with_reducible refine below_drewN ?_ _) | ((refine Below.trans ?_ (Below.mono (by with_reducible assumption) ?_)); rotate_left; · (first | omega | (simp; done) | (simp; omega) | (simp at *; omega)))))⟩
  · have HN := Lib.hid (rwell_at s now h hx)
    obtain ⟨h1, h2, h3, h4, h5, h6⟩ := id h
    obtain ⟨t1, t2⟩ := ht
    have d1 : decide (now < 0) = false := decide_eq_false (by omega)
    have d2 : decide (1099511627776 < now) = false := decide_eq_false (by omega)
    go_enter Try.func18, Try.ntmps18
    go_wp2_with (go_at_call 24; refine (rsound_yes s _ h).mono ?_; rintro e w1 ⟨rfl, hb1⟩; obtain ⟨b0, b1, b2, b3, b4, b5⟩ := (((Blk.new _ _ _).alloc _).below hb1 (by first | omega | (simp; done) | (simp; omega) | (simp at *; omega))).three; obtain ⟨r0, r1, r2, r3, r4, r5⟩ := ((Blk.new _ _ _).below hb1 (by first | omega | (simp; done) | (simp; omega) | (simp at *; omega))).three; have hz1 := hb1.size; simp only [World.size_alloc] at r0 r1 r2 r3 r4 r5 hz1; clear h)
    refine bodyPost_ret (v := .agg #[.int .i64 s.e, .int .i64 (s.well now).n, .int .i64 0]) ?_ ?_ ?_
    · rw [← HN.out]; simp [results, Try.results18, go_sem, r0, r1, r2]
    · rfl
    · exact ⟨rfl, by (repeat (first | (with_reducible assumption) | (with_reducible exact Below.refl _ _) | ((with_reducible refine Below.setCell ?_ ?_ _); rotate_left; · (first | omega | (simp; done) | (simp; omega) | (simp at *; omega))) | ((with_reducible refine Below.alloc ?_ ?_ _); rotate_left; · (first | omega | (simp; done) | (simp; omega) | (simp at *; omega))) | (with_reducible refine Below.drew ?_) | (with_reducible refine below_drewN ?_ _) | ((refine Below.trans ?_ (Below.mono (by with_reducible assumption) ?_)); rotate_left; · (first | omega | (simp; done) | (simp; omega) | (simp at *; omega)))))⟩

def pw : Nat → Int
  | 0 => 1
  | k + 1 => 2 * pw k
theorem pw_le (e : Int) (k m : Nat) (hk : k < m) (hm : m ≤ 5) (h1 : 1 ≤ e) (h2 : e ≤ 1048576) : 1 ≤ e * pw k ∧ e * pw k ≤ 16777216 ∧ 2 * (e * pw k) = e * pw (k + 1) := by
  have h : 1 ≤ pw k ∧ pw k ≤ 16 := by
    have : k = 0 ∨ k = 1 ∨ k = 2 ∨ k = 3 ∨ k = 4 := by omega
    rcases this with rfl | rfl | rfl | rfl | rfl <;> decide
  have a : 1 * 1 ≤ e * pw k := Int.mul_le_mul h1 h.1 (by omega) (by omega)
  have b : e * pw k ≤ 1048576 * 16 := Int.mul_le_mul h2 h.2 (by omega) (by omega)
  refine ⟨by omega, by omega, ?_⟩
  exact Int.mul_left_comm 2 e (pw k)

set_option maxHeartbeats 1000000 in
theorem rdone_ill0 (e n now : Int) (w : World) (h : Slot.Ok ⟨e, n, 0⟩) (ht : TimeOk now) :
    Calls Try.prog 18 #[.agg #[.int .i64 e, .int .i64 n, .int .i64 0], .int .i64 now, .bool false] w (SlotBack w ⟨e, now + e * 2, 1⟩) := by
  have HC := Lib.hid (fun W => rsound_yes _ W h)
  obtain ⟨h1, h2, h3, h4, h5, h6⟩ := id h
  simp only at h1 h2 h3 h4
  obtain ⟨t1, t2⟩ := ht
  have d1 : decide (now < 0) = false := decide_eq_false (by omega)
  have d2 : decide (1099511627776 < now) = false := decide_eq_false (by omega)
  clear h h5 h6
  go_enter Try.func18, Try.ntmps18
  go_wp2_with (go_at_call 24; refine (HC.out _).mono ?_; rintro e w1 ⟨rfl, hb1⟩; obtain ⟨b0, b1, b2, b3, b4, b5⟩ := (((Blk.new _ _ _).alloc _).below hb1 (by first | omega | (simp; done) | (simp; omega) | (simp at *; omega))).three; obtain ⟨r0, r1, r2, r3, r4, r5⟩ := ((Blk.new _ _ _).below hb1 (by first | omega | (simp; done) | (simp; omega) | (simp at *; omega))).three; have hz1 := hb1.size; simp only [World.size_alloc] at r0 r1 r2 r3 r4 r5 hz1)
  go_loopg [9, 10] 1 (fun g wv i wr => ∃ k : Nat, k ≤ 1 ∧ g = 1 - k ∧ i = .int .i64 k ∧ wv = .int .i64 (e * pw k) ∧ w1 = wr)
  case atStart => exact ⟨0, by omega, rfl, rfl, by simp [pw], rfl⟩
  case round =>
    obtain ⟨k, hk, rfl, rfl, rfl, rfl⟩ := hrel
    by_cases hlt : k < 1
    · obtain ⟨p1, p2, p3⟩ := pw_le e k 1 hlt (by omega) h1 h2
      have HP := Lib.hid p3
      clear p3
      obtain ⟨v, hv⟩ : ∃ v, v = e * pw k := ⟨_, rfl⟩
      rw [← hv] at p1 p2 ⊢
      have HV := Lib.hid hv
      clear hv
      go_wp2
      go_roundg (1 - (k + 1))
      case measure => omega
      case rel => exact ⟨k + 1, by omega, rfl, by go_num, by rw [← HP.out, ← HV.out], rfl⟩
    · obtain rfl : k = 1 := by omega
      clear hlt hk
      have hp : e * pw 1 = e * 2 := by simp [pw]
      rw [hp]
      clear hp
      go_wp2
      refine bodyPost_ret (v := .agg #[.int .i64 e, .int .i64 (now + e * 2), .int .i64 1]) ?_ ?_ ?_
      · simp [results, Try.results18, go_sem, r0, r1, r2]
      · rfl
      · exact ⟨rfl, by (repeat (first | (with_reducible assumption) | (with_reducible exact Below.refl _ _) | ((with_reducible refine Below.setCell ?_ ?_ _); rotate_left; · (first | omega | (simp; done) | (simp; omega) | (simp at *; omega))) | ((with_reducible refine Below.alloc ?_ ?_ _); rotate_left; · (first | omega | (simp; done) | (simp; omega) | (simp at *; omega))) | (with_reducible refine Below.drew ?_) | (with_reducible refine below_drewN ?_ _) | ((refine Below.trans ?_ (Below.mono (by with_reducible assumption) ?_)); rotate_left; · (first | omega | (simp; done) | (simp; omega) | (simp at *; omega)))))⟩
set_option maxHeartbeats 1000000 in
theorem rdone_ill1 (e n now : Int) (w : World) (h : Slot.Ok ⟨e, n, 1⟩) (ht : TimeOk now) :
    Calls Try.prog 18 #[.agg #[.int .i64 e, .int .i64 n, .int .i64 1], .int .i64 now, .bool false] w (SlotBack w ⟨e, now + e * 4, 2⟩) := by
  have HC := Lib.hid (fun W => rsound_yes _ W h)
  obtain ⟨h1, h2, h3, h4, h5, h6⟩ := id h
  simp only at h1 h2 h3 h4
  obtain ⟨t1, t2⟩ := ht
  have d1 : decide (now < 0) = false := decide_eq_false (by omega)
  have d2 : decide (1099511627776 < now) = false := decide_eq_false (by omega)
  clear h h5 h6
  go_enter Try.func18, Try.ntmps18
  go_wp2_with (go_at_call 24; refine (HC.out _).mono ?_; rintro e w1 ⟨rfl, hb1⟩; obtain ⟨b0, b1, b2, b3, b4, b5⟩ := (((Blk.new _ _ _).alloc _).below hb1 (by first | omega | (simp; done) | (simp; omega) | (simp at *; omega))).three; obtain ⟨r0, r1, r2, r3, r4, r5⟩ := ((Blk.new _ _ _).below hb1 (by first | omega | (simp; done) | (simp; omega) | (simp at *; omega))).three; have hz1 := hb1.size; simp only [World.size_alloc] at r0 r1 r2 r3 r4 r5 hz1)
  go_loopg [9, 10] 2 (fun g wv i wr => ∃ k : Nat, k ≤ 2 ∧ g = 2 - k ∧ i = .int .i64 k ∧ wv = .int .i64 (e * pw k) ∧ w1 = wr)
  case atStart => exact ⟨0, by omega, rfl, rfl, by simp [pw], rfl⟩
  case round =>
    obtain ⟨k, hk, rfl, rfl, rfl, rfl⟩ := hrel
    by_cases hlt : k < 2
    · obtain ⟨p1, p2, p3⟩ := pw_le e k 2 hlt (by omega) h1 h2
      have HP := Lib.hid p3
      clear p3
      obtain ⟨v, hv⟩ : ∃ v, v = e * pw k := ⟨_, rfl⟩
      rw [← hv] at p1 p2 ⊢
      have HV := Lib.hid hv
      clear hv
      go_wp2
      go_roundg (2 - (k + 1))
      case measure => omega
      case rel => exact ⟨k + 1, by omega, rfl, by go_num, by rw [← HP.out, ← HV.out], rfl⟩
    · obtain rfl : k = 2 := by omega
      clear hlt hk
      have hp : e * pw 2 = e * 4 := by simp [pw]
      rw [hp]
      clear hp
      go_wp2
      refine bodyPost_ret (v := .agg #[.int .i64 e, .int .i64 (now + e * 4), .int .i64 2]) ?_ ?_ ?_
      · simp [results, Try.results18, go_sem, r0, r1, r2]
      · rfl
      · exact ⟨rfl, by (repeat (first | (with_reducible assumption) | (with_reducible exact Below.refl _ _) | ((with_reducible refine Below.setCell ?_ ?_ _); rotate_left; · (first | omega | (simp; done) | (simp; omega) | (simp at *; omega))) | ((with_reducible refine Below.alloc ?_ ?_ _); rotate_left; · (first | omega | (simp; done) | (simp; omega) | (simp at *; omega))) | (with_reducible refine Below.drew ?_) | (with_reducible refine below_drewN ?_ _) | ((refine Below.trans ?_ (Below.mono (by with_reducible assumption) ?_)); rotate_left; · (first | omega | (simp; done) | (simp; omega) | (simp at *; omega)))))⟩
set_option maxHeartbeats 1000000 in
theorem rdone_ill2 (e n now : Int) (w : World) (h : Slot.Ok ⟨e, n, 2⟩) (ht : TimeOk now) :
    Calls Try.prog 18 #[.agg #[.int .i64 e, .int .i64 n, .int .i64 2], .int .i64 now, .bool false] w (SlotBack w ⟨e, now + e * 8, 3⟩) := by
  have HC := Lib.hid (fun W => rsound_yes _ W h)
  obtain ⟨h1, h2, h3, h4, h5, h6⟩ := id h
  simp only at h1 h2 h3 h4
  obtain ⟨t1, t2⟩ := ht
  have d1 : decide (now < 0) = false := decide_eq_false (by omega)
  have d2 : decide (1099511627776 < now) = false := decide_eq_false (by omega)
  clear h h5 h6
  go_enter Try.func18, Try.ntmps18
  go_wp2_with (go_at_call 24; refine (HC.out _).mono ?_; rintro e w1 ⟨rfl, hb1⟩; obtain ⟨b0, b1, b2, b3, b4, b5⟩ := (((Blk.new _ _ _).alloc _).below hb1 (by first | omega | (simp; done) | (simp; omega) | (simp at *; omega))).three; obtain ⟨r0, r1, r2, r3, r4, r5⟩ := ((Blk.new _ _ _).below hb1 (by first | omega | (simp; done) | (simp; omega) | (simp at *; omega))).three; have hz1 := hb1.size; simp only [World.size_alloc] at r0 r1 r2 r3 r4 r5 hz1)
  go_loopg [9, 10] 3 (fun g wv i wr => ∃ k : Nat, k ≤ 3 ∧ g = 3 - k ∧ i = .int .i64 k ∧ wv = .int .i64 (e * pw k) ∧ w1 = wr)
  case atStart => exact ⟨0, by omega, rfl, rfl, by simp [pw], rfl⟩
  case round =>
    obtain ⟨k, hk, rfl, rfl, rfl, rfl⟩ := hrel
    by_cases hlt : k < 3
    · obtain ⟨p1, p2, p3⟩ := pw_le e k 3 hlt (by omega) h1 h2
      have HP := Lib.hid p3
      clear p3
      obtain ⟨v, hv⟩ : ∃ v, v = e * pw k := ⟨_, rfl⟩
      rw [← hv] at p1 p2 ⊢
      have HV := Lib.hid hv
      clear hv
      go_wp2
      go_roundg (3 - (k + 1))
      case measure => omega
      case rel => exact ⟨k + 1, by omega, rfl, by go_num, by rw [← HP.out, ← HV.out], rfl⟩
    · obtain rfl : k = 3 := by omega
      clear hlt hk
      have hp : e * pw 3 = e * 8 := by simp [pw]
      rw [hp]
      clear hp
      go_wp2
      refine bodyPost_ret (v := .agg #[.int .i64 e, .int .i64 (now + e * 8), .int .i64 3]) ?_ ?_ ?_
      · simp [results, Try.results18, go_sem, r0, r1, r2]
      · rfl
      · exact ⟨rfl, by (repeat (first | (with_reducible assumption) | (with_reducible exact Below.refl _ _) | ((with_reducible refine Below.setCell ?_ ?_ _); rotate_left; · (first | omega | (simp; done) | (simp; omega) | (simp at *; omega))) | ((with_reducible refine Below.alloc ?_ ?_ _); rotate_left; · (first | omega | (simp; done) | (simp; omega) | (simp at *; omega))) | (with_reducible refine Below.drew ?_) | (with_reducible refine below_drewN ?_ _) | ((refine Below.trans ?_ (Below.mono (by with_reducible assumption) ?_)); rotate_left; · (first | omega | (simp; done) | (simp; omega) | (simp at *; omega)))))⟩
set_option maxHeartbeats 1000000 in
theorem rdone_ill3 (e n now : Int) (w : World) (h : Slot.Ok ⟨e, n, 3⟩) (ht : TimeOk now) :
    Calls Try.prog 18 #[.agg #[.int .i64 e, .int .i64 n, .int .i64 3], .int .i64 now, .bool false] w (SlotBack w ⟨e, now + e * 16, 4⟩) := by
  have HC := Lib.hid (fun W => rsound_yes _ W h)
  obtain ⟨h1, h2, h3, h4, h5, h6⟩ := id h
  simp only at h1 h2 h3 h4
  obtain ⟨t1, t2⟩ := ht
  have d1 : decide (now < 0) = false := decide_eq_false (by omega)
  have d2 : decide (1099511627776 < now) = false := decide_eq_false (by omega)
  clear h h5 h6
  go_enter Try.func18, Try.ntmps18
  go_wp2_with (go_at_call 24; refine (HC.out _).mono ?_; rintro e w1 ⟨rfl, hb1⟩; obtain ⟨b0, b1, b2, b3, b4, b5⟩ := (((Blk.new _ _ _).alloc _).below hb1 (by first | omega | (simp; done) | (simp; omega) | (simp at *; omega))).three; obtain ⟨r0, r1, r2, r3, r4, r5⟩ := ((Blk.new _ _ _).below hb1 (by first | omega | (simp; done) | (simp; omega) | (simp at *; omega))).three; have hz1 := hb1.size; simp only [World.size_alloc] at r0 r1 r2 r3 r4 r5 hz1)
  go_loopg [9, 10] 4 (fun g wv i wr => ∃ k : Nat, k ≤ 4 ∧ g = 4 - k ∧ i = .int .i64 k ∧ wv = .int .i64 (e * pw k) ∧ w1 = wr)
  case atStart => exact ⟨0, by omega, rfl, rfl, by simp [pw], rfl⟩
  case round =>
    obtain ⟨k, hk, rfl, rfl, rfl, rfl⟩ := hrel
    by_cases hlt : k < 4
    · obtain ⟨p1, p2, p3⟩ := pw_le e k 4 hlt (by omega) h1 h2
      have HP := Lib.hid p3
      clear p3
      obtain ⟨v, hv⟩ : ∃ v, v = e * pw k := ⟨_, rfl⟩
      rw [← hv] at p1 p2 ⊢
      have HV := Lib.hid hv
      clear hv
      go_wp2
      go_roundg (4 - (k + 1))
      case measure => omega
      case rel => exact ⟨k + 1, by omega, rfl, by go_num, by rw [← HP.out, ← HV.out], rfl⟩
    · obtain rfl : k = 4 := by omega
      clear hlt hk
      have hp : e * pw 4 = e * 16 := by simp [pw]
      rw [hp]
      clear hp
      go_wp2
      refine bodyPost_ret (v := .agg #[.int .i64 e, .int .i64 (now + e * 16), .int .i64 4]) ?_ ?_ ?_
      · simp [results, Try.results18, go_sem, r0, r1, r2]
      · rfl
      · exact ⟨rfl, by (repeat (first | (with_reducible assumption) | (with_reducible exact Below.refl _ _) | ((with_reducible refine Below.setCell ?_ ?_ _); rotate_left; · (first | omega | (simp; done) | (simp; omega) | (simp at *; omega))) | ((with_reducible refine Below.alloc ?_ ?_ _); rotate_left; · (first | omega | (simp; done) | (simp; omega) | (simp at *; omega))) | (with_reducible refine Below.drew ?_) | (with_reducible refine below_drewN ?_ _) | ((refine Below.trans ?_ (Below.mono (by with_reducible assumption) ?_)); rotate_left; · (first | omega | (simp; done) | (simp; omega) | (simp at *; omega)))))⟩
set_option maxHeartbeats 1000000 in
theorem rdone_ill4 (e n now : Int) (w : World) (h : Slot.Ok ⟨e, n, 4⟩) (ht : TimeOk now) :
    Calls Try.prog 18 #[.agg #[.int .i64 e, .int .i64 n, .int .i64 4], .int .i64 now, .bool false] w (SlotBack w ⟨e, now + e * 32, 5⟩) := by
  have HC := Lib.hid (fun W => rsound_yes _ W h)
  obtain ⟨h1, h2, h3, h4, h5, h6⟩ := id h
  simp only at h1 h2 h3 h4
  obtain ⟨t1, t2⟩ := ht
  have d1 : decide (now < 0) = false := decide_eq_false (by omega)
  have d2 : decide (1099511627776 < now) = false := decide_eq_false (by omega)
  clear h h5 h6
  go_enter Try.func18, Try.ntmps18
  go_wp2_with (go_at_call 24; refine (HC.out _).mono ?_; rintro e w1 ⟨rfl, hb1⟩; obtain ⟨b0, b1, b2, b3, b4, b5⟩ := (((Blk.new _ _ _).alloc _).below hb1 (by first | omega | (simp; done) | (simp; omega) | (simp at *; omega))).three; obtain ⟨r0, r1, r2, r3, r4, r5⟩ := ((Blk.new _ _ _).below hb1 (by first | omega | (simp; done) | (simp; omega) | (simp at *; omega))).three; have hz1 := hb1.size; simp only [World.size_alloc] at r0 r1 r2 r3 r4 r5 hz1)
  go_loopg [9, 10] 5 (fun g wv i wr => ∃ k : Nat, k ≤ 5 ∧ g = 5 - k ∧ i = .int .i64 k ∧ wv = .int .i64 (e * pw k) ∧ w1 = wr)
  case atStart => exact ⟨0, by omega, rfl, rfl, by simp [pw], rfl⟩
  case round =>
    obtain ⟨k, hk, rfl, rfl, rfl, rfl⟩ := hrel
    by_cases hlt : k < 5
    · obtain ⟨p1, p2, p3⟩ := pw_le e k 5 hlt (by omega) h1 h2
      have HP := Lib.hid p3
      clear p3
      obtain ⟨v, hv⟩ : ∃ v, v = e * pw k := ⟨_, rfl⟩
      rw [← hv] at p1 p2 ⊢
      have HV := Lib.hid hv
      clear hv
      go_wp2
      go_roundg (5 - (k + 1))
      case measure => omega
      case rel => exact ⟨k + 1, by omega, rfl, by go_num, by rw [← HP.out, ← HV.out], rfl⟩
    · obtain rfl : k = 5 := by omega
      clear hlt hk
      have hp : e * pw 5 = e * 32 := by simp [pw]
      rw [hp]
      clear hp
      go_wp2
      refine bodyPost_ret (v := .agg #[.int .i64 e, .int .i64 (now + e * 32), .int .i64 5]) ?_ ?_ ?_
      · simp [results, Try.results18, go_sem, r0, r1, r2]
      · rfl
      · exact ⟨rfl, by (repeat (first | (with_reducible assumption) | (with_reducible exact Below.refl _ _) | ((with_reducible refine Below.setCell ?_ ?_ _); rotate_left; · (first | omega | (simp; done) | (simp; omega) | (simp at *; omega))) | ((with_reducible refine Below.alloc ?_ ?_ _); rotate_left; · (first | omega | (simp; done) | (simp; omega) | (simp at *; omega))) | (with_reducible refine Below.drew ?_) | (with_reducible refine below_drewN ?_ _) | ((refine Below.trans ?_ (Below.mono (by with_reducible assumption) ?_)); rotate_left; · (first | omega | (simp; done) | (simp; omega) | (simp at *; omega)))))⟩
set_option maxHeartbeats 1000000 in
theorem rdone_ill5 (e n now : Int) (w : World) (h : Slot.Ok ⟨e, n, 5⟩) (ht : TimeOk now) :
    Calls Try.prog 18 #[.agg #[.int .i64 e, .int .i64 n, .int .i64 5], .int .i64 now, .bool false] w (SlotBack w ⟨e, now + e * 32, 6⟩) := by
  have HC := Lib.hid (fun W => rsound_yes _ W h)
  obtain ⟨h1, h2, h3, h4, h5, h6⟩ := id h
  simp only at h1 h2 h3 h4
  obtain ⟨t1, t2⟩ := ht
  have d1 : decide (now < 0) = false := decide_eq_false (by omega)
  have d2 : decide (1099511627776 < now) = false := decide_eq_false (by omega)
  clear h h5 h6
  go_enter Try.func18, Try.ntmps18
  go_wp2_with (go_at_call 24; refine (HC.out _).mono ?_; rintro e w1 ⟨rfl, hb1⟩; obtain ⟨b0, b1, b2, b3, b4, b5⟩ := (((Blk.new _ _ _).alloc _).below hb1 (by first | omega | (simp; done) | (simp; omega) | (simp at *; omega))).three; obtain ⟨r0, r1, r2, r3, r4, r5⟩ := ((Blk.new _ _ _).below hb1 (by first | omega | (simp; done) | (simp; omega) | (simp at *; omega))).three; have hz1 := hb1.size; simp only [World.size_alloc] at r0 r1 r2 r3 r4 r5 hz1)
  go_loopg [9, 10] 5 (fun g wv i wr => ∃ k : Nat, k ≤ 5 ∧ g = 5 - k ∧ i = .int .i64 k ∧ wv = .int .i64 (e * pw k) ∧ w1 = wr)
  case atStart => exact ⟨0, by omega, rfl, rfl, by simp [pw], rfl⟩
  case round =>
    obtain ⟨k, hk, rfl, rfl, rfl, rfl⟩ := hrel
    by_cases hlt : k < 5
    · obtain ⟨p1, p2, p3⟩ := pw_le e k 5 hlt (by omega) h1 h2
      have HP := Lib.hid p3
      clear p3
      obtain ⟨v, hv⟩ : ∃ v, v = e * pw k := ⟨_, rfl⟩
      rw [← hv] at p1 p2 ⊢
      have HV := Lib.hid hv
      clear hv
      go_wp2
      go_roundg (5 - (k + 1))
      case measure => omega
      case rel => exact ⟨k + 1, by omega, rfl, by go_num, by rw [← HP.out, ← HV.out], rfl⟩
    · obtain rfl : k = 5 := by omega
      clear hlt hk
      have hp : e * pw 5 = e * 32 := by simp [pw]
      rw [hp]
      clear hp
      go_wp2
      refine bodyPost_ret (v := .agg #[.int .i64 e, .int .i64 (now + e * 32), .int .i64 6]) ?_ ?_ ?_
      · simp [results, Try.results18, go_sem, r0, r1, r2]
      · rfl
      · exact ⟨rfl, by (repeat (first | (with_reducible assumption) | (with_reducible exact Below.refl _ _) | ((with_reducible refine Below.setCell ?_ ?_ _); rotate_left; · (first | omega | (simp; done) | (simp; omega) | (simp at *; omega))) | ((with_reducible refine Below.alloc ?_ ?_ _); rotate_left; · (first | omega | (simp; done) | (simp; omega) | (simp at *; omega))) | (with_reducible refine Below.drew ?_) | (with_reducible refine below_drewN ?_ _) | ((refine Below.trans ?_ (Below.mono (by with_reducible assumption) ?_)); rotate_left; · (first | omega | (simp; done) | (simp; omega) | (simp at *; omega)))))⟩
set_option maxHeartbeats 1000000 in
theorem rdone_ill6 (e n now : Int) (w : World) (h : Slot.Ok ⟨e, n, 6⟩) (ht : TimeOk now) :
    Calls Try.prog 18 #[.agg #[.int .i64 e, .int .i64 n, .int .i64 6], .int .i64 now, .bool false] w (SlotBack w ⟨e, now + e * 32, 7⟩) := by
  have HC := Lib.hid (fun W => rsound_yes _ W h)
  obtain ⟨h1, h2, h3, h4, h5, h6⟩ := id h
  simp only at h1 h2 h3 h4
  obtain ⟨t1, t2⟩ := ht
  have d1 : decide (now < 0) = false := decide_eq_false (by omega)
  have d2 : decide (1099511627776 < now) = false := decide_eq_false (by omega)
  clear h h5 h6
  go_enter Try.func18, Try.ntmps18
  go_wp2_with (go_at_call 24; refine (HC.out _).mono ?_; rintro e w1 ⟨rfl, hb1⟩; obtain ⟨b0, b1, b2, b3, b4, b5⟩ := (((Blk.new _ _ _).alloc _).below hb1 (by first | omega | (simp; done) | (simp; omega) | (simp at *; omega))).three; obtain ⟨r0, r1, r2, r3, r4, r5⟩ := ((Blk.new _ _ _).below hb1 (by first | omega | (simp; done) | (simp; omega) | (simp at *; omega))).three; have hz1 := hb1.size; simp only [World.size_alloc] at r0 r1 r2 r3 r4 r5 hz1)
  go_loopg [9, 10] 5 (fun g wv i wr => ∃ k : Nat, k ≤ 5 ∧ g = 5 - k ∧ i = .int .i64 k ∧ wv = .int .i64 (e * pw k) ∧ w1 = wr)
  case atStart => exact ⟨0, by omega, rfl, rfl, by simp [pw], rfl⟩
  case round =>
    obtain ⟨k, hk, rfl, rfl, rfl, rfl⟩ := hrel
    by_cases hlt : k < 5
    · obtain ⟨p1, p2, p3⟩ := pw_le e k 5 hlt (by omega) h1 h2
      have HP := Lib.hid p3
      clear p3
      obtain ⟨v, hv⟩ : ∃ v, v = e * pw k := ⟨_, rfl⟩
      rw [← hv] at p1 p2 ⊢
      have HV := Lib.hid hv
      clear hv
      go_wp2
      go_roundg (5 - (k + 1))
      case measure => omega
      case rel => exact ⟨k + 1, by omega, rfl, by go_num, by rw [← HP.out, ← HV.out], rfl⟩
    · obtain rfl : k = 5 := by omega
      clear hlt hk
      have hp : e * pw 5 = e * 32 := by simp [pw]
      rw [hp]
      clear hp
      go_wp2
      refine bodyPost_ret (v := .agg #[.int .i64 e, .int .i64 (now + e * 32), .int .i64 7]) ?_ ?_ ?_
      · simp [results, Try.results18, go_sem, r0, r1, r2]
      · rfl
      · exact ⟨rfl, by (repeat (first | (with_reducible assumption) | (with_reducible exact Below.refl _ _) | ((with_reducible refine Below.setCell ?_ ?_ _); rotate_left; · (first | omega | (simp; done) | (simp; omega) | (simp at *; omega))) | ((with_reducible refine Below.alloc ?_ ?_ _); rotate_left; · (first | omega | (simp; done) | (simp; omega) | (simp at *; omega))) | (with_reducible refine Below.drew ?_) | (with_reducible refine below_drewN ?_ _) | ((refine Below.trans ?_ (Below.mono (by with_reducible assumption) ?_)); rotate_left; · (first | omega | (simp; done) | (simp; omega) | (simp at *; omega)))))⟩
set_option maxHeartbeats 1000000 in
theorem rdone_ill7 (e n now : Int) (w : World) (h : Slot.Ok ⟨e, n, 7⟩) (ht : TimeOk now) :
    Calls Try.prog 18 #[.agg #[.int .i64 e, .int .i64 n, .int .i64 7], .int .i64 now, .bool false] w (SlotBack w ⟨e, now + e * 32, 8⟩) := by
  have HC := Lib.hid (fun W => rsound_yes _ W h)
  obtain ⟨h1, h2, h3, h4, h5, h6⟩ := id h
  simp only at h1 h2 h3 h4
  obtain ⟨t1, t2⟩ := ht
  have d1 : decide (now < 0) = false := decide_eq_false (by omega)
  have d2 : decide (1099511627776 < now) = false := decide_eq_false (by omega)
  clear h h5 h6
  go_enter Try.func18, Try.ntmps18
  go_wp2_with (go_at_call 24; refine (HC.out _).mono ?_; rintro e w1 ⟨rfl, hb1⟩; obtain ⟨b0, b1, b2, b3, b4, b5⟩ := (((Blk.new _ _ _).alloc _).below hb1 (by first | omega | (simp; done) | (simp; omega) | (simp at *; omega))).three; obtain ⟨r0, r1, r2, r3, r4, r5⟩ := ((Blk.new _ _ _).below hb1 (by first | omega | (simp; done) | (simp; omega) | (simp at *; omega))).three; have hz1 := hb1.size; simp only [World.size_alloc] at r0 r1 r2 r3 r4 r5 hz1)
  go_loopg [9, 10] 5 (fun g wv i wr => ∃ k : Nat, k ≤ 5 ∧ g = 5 - k ∧ i = .int .i64 k ∧ wv = .int .i64 (e * pw k) ∧ w1 = wr)
  case atStart => exact ⟨0, by omega, rfl, rfl, by simp [pw], rfl⟩
  case round =>
    obtain ⟨k, hk, rfl, rfl, rfl, rfl⟩ := hrel
    by_cases hlt : k < 5
    · obtain ⟨p1, p2, p3⟩ := pw_le e k 5 hlt (by omega) h1 h2
      have HP := Lib.hid p3
      clear p3
      obtain ⟨v, hv⟩ : ∃ v, v = e * pw k := ⟨_, rfl⟩
      rw [← hv] at p1 p2 ⊢
      have HV := Lib.hid hv
      clear hv
      go_wp2
      go_roundg (5 - (k + 1))
      case measure => omega
      case rel => exact ⟨k + 1, by omega, rfl, by go_num, by rw [← HP.out, ← HV.out], rfl⟩
    · obtain rfl : k = 5 := by omega
      clear hlt hk
      have hp : e * pw 5 = e * 32 := by simp [pw]
      rw [hp]
      clear hp
      go_wp2
      refine bodyPost_ret (v := .agg #[.int .i64 e, .int .i64 (now + e * 32), .int .i64 8]) ?_ ?_ ?_
      · simp [results, Try.results18, go_sem, r0, r1, r2]
      · rfl
      · exact ⟨rfl, by (repeat (first | (with_reducible assumption) | (with_reducible exact Below.refl _ _) | ((with_reducible refine Below.setCell ?_ ?_ _); rotate_left; · (first | omega | (simp; done) | (simp; omega) | (simp at *; omega))) | ((with_reducible refine Below.alloc ?_ ?_ _); rotate_left; · (first | omega | (simp; done) | (simp; omega) | (simp at *; omega))) | (with_reducible refine Below.drew ?_) | (with_reducible refine below_drewN ?_ _) | ((refine Below.trans ?_ (Below.mono (by with_reducible assumption) ?_)); rotate_left; · (first | omega | (simp; done) | (simp; omega) | (simp at *; omega)))))⟩
set_option maxHeartbeats 1000000 in
theorem rdone_ill8 (e n now : Int) (w : World) (h : Slot.Ok ⟨e, n, 8⟩) (ht : TimeOk now) :
    Calls Try.prog 18 #[.agg #[.int .i64 e, .int .i64 n, .int .i64 8], .int .i64 now, .bool false] w (SlotBack w ⟨e, now + e * 32, 9⟩) := by
  have HC := Lib.hid (fun W => rsound_yes _ W h)
  obtain ⟨h1, h2, h3, h4, h5, h6⟩ := id h
  simp only at h1 h2 h3 h4
  obtain ⟨t1, t2⟩ := ht
  have d1 : decide (now < 0) = false := decide_eq_false (by omega)
  have d2 : decide (1099511627776 < now) = false := decide_eq_false (by omega)
  clear h h5 h6
  go_enter Try.func18, Try.ntmps18
  go_wp2_with (go_at_call 24; refine (HC.out _).mono ?_; rintro e w1 ⟨rfl, hb1⟩; obtain ⟨b0, b1, b2, b3, b4, b5⟩ := (((Blk.new _ _ _).alloc _).below hb1 (by first | omega | (simp; done) | (simp; omega) | (simp at *; omega))).three; obtain ⟨r0, r1, r2, r3, r4, r5⟩ := ((Blk.new _ _ _).below hb1 (by first | omega | (simp; done) | (simp; omega) | (simp at *; omega))).three; have hz1 := hb1.size; simp only [World.size_alloc] at r0 r1 r2 r3 r4 r5 hz1)
  go_loopg [9, 10] 5 (fun g wv i wr => ∃ k : Nat, k ≤ 5 ∧ g = 5 - k ∧ i = .int .i64 k ∧ wv = .int .i64 (e * pw k) ∧ w1 = wr)
  case atStart => exact ⟨0, by omega, rfl, rfl, by simp [pw], rfl⟩
  case round =>
    obtain ⟨k, hk, rfl, rfl, rfl, rfl⟩ := hrel
    by_cases hlt : k < 5
    · obtain ⟨p1, p2, p3⟩ := pw_le e k 5 hlt (by omega) h1 h2
      have HP := Lib.hid p3
      clear p3
      obtain ⟨v, hv⟩ : ∃ v, v = e * pw k := ⟨_, rfl⟩
      rw [← hv] at p1 p2 ⊢
      have HV := Lib.hid hv
      clear hv
      go_wp2
      go_roundg (5 - (k + 1))
      case measure => omega
      case rel => exact ⟨k + 1, by omega, rfl, by go_num, by rw [← HP.out, ← HV.out], rfl⟩
    · obtain rfl : k = 5 := by omega
      clear hlt hk
      have hp : e * pw 5 = e * 32 := by simp [pw]
      rw [hp]
      clear hp
      go_wp2
      refine bodyPost_ret (v := .agg #[.int .i64 e, .int .i64 (now + e * 32), .int .i64 9]) ?_ ?_ ?_
      · simp [results, Try.results18, go_sem, r0, r1, r2]
      · rfl
      · exact ⟨rfl, by (repeat (first | (with_reducible assumption) | (with_reducible exact Below.refl _ _) | ((with_reducible refine Below.setCell ?_ ?_ _); rotate_left; · (first | omega | (simp; done) | (simp; omega) | (simp at *; omega))) | ((with_reducible refine Below.alloc ?_ ?_ _); rotate_left; · (first | omega | (simp; done) | (simp; omega) | (simp at *; omega))) | (with_reducible refine Below.drew ?_) | (with_reducible refine below_drewN ?_ _) | ((refine Below.trans ?_ (Below.mono (by with_reducible assumption) ?_)); rotate_left; · (first | omega | (simp; done) | (simp; omega) | (simp at *; omega)))))⟩
set_option maxHeartbeats 1000000 in
theorem rdone_ill9 (e n now : Int) (w : World) (h : Slot.Ok ⟨e, n, 9⟩) (ht : TimeOk now) :
    Calls Try.prog 18 #[.agg #[.int .i64 e, .int .i64 n, .int .i64 9], .int .i64 now, .bool false] w (SlotBack w ⟨e, now + e * 32, 10⟩) := by
  have HC := Lib.hid (fun W => rsound_yes _ W h)
  obtain ⟨h1, h2, h3, h4, h5, h6⟩ := id h
  simp only at h1 h2 h3 h4
  obtain ⟨t1, t2⟩ := ht
  have d1 : decide (now < 0) = false := decide_eq_false (by omega)
  have d2 : decide (1099511627776 < now) = false := decide_eq_false (by omega)
  clear h h5 h6
  go_enter Try.func18, Try.ntmps18
  go_wp2_with (go_at_call 24; refine (HC.out _).mono ?_; rintro e w1 ⟨rfl, hb1⟩; obtain ⟨b0, b1, b2, b3, b4, b5⟩ := (((Blk.new _ _ _).alloc _).below hb1 (by first | omega | (simp; done) | (simp; omega) | (simp at *; omega))).three; obtain ⟨r0, r1, r2, r3, r4, r5⟩ := ((Blk.new _ _ _).below hb1 (by first | omega | (simp; done) | (simp; omega) | (simp at *; omega))).three; have hz1 := hb1.size; simp only [World.size_alloc] at r0 r1 r2 r3 r4 r5 hz1)
  go_loopg [9, 10] 5 (fun g wv i wr => ∃ k : Nat, k ≤ 5 ∧ g = 5 - k ∧ i = .int .i64 k ∧ wv = .int .i64 (e * pw k) ∧ w1 = wr)
  case atStart => exact ⟨0, by omega, rfl, rfl, by simp [pw], rfl⟩
  case round =>
    obtain ⟨k, hk, rfl, rfl, rfl, rfl⟩ := hrel
    by_cases hlt : k < 5
    · obtain ⟨p1, p2, p3⟩ := pw_le e k 5 hlt (by omega) h1 h2
      have HP := Lib.hid p3
      clear p3
      obtain ⟨v, hv⟩ : ∃ v, v = e * pw k := ⟨_, rfl⟩
      rw [← hv] at p1 p2 ⊢
      have HV := Lib.hid hv
      clear hv
      go_wp2
      go_roundg (5 - (k + 1))
      case measure => omega
      case rel => exact ⟨k + 1, by omega, rfl, by go_num, by rw [← HP.out, ← HV.out], rfl⟩
    · obtain rfl : k = 5 := by omega
      clear hlt hk
      have hp : e * pw 5 = e * 32 := by simp [pw]
      rw [hp]
      clear hp
      go_wp2
      refine bodyPost_ret (v := .agg #[.int .i64 e, .int .i64 (now + e * 32), .int .i64 10]) ?_ ?_ ?_
      · simp [results, Try.results18, go_sem, r0, r1, r2]
      · rfl
      · exact ⟨rfl, by (repeat (first | (with_reducible assumption) | (with_reducible exact Below.refl _ _) | ((with_reducible refine Below.setCell ?_ ?_ _); rotate_left; · (first | omega | (simp; done) | (simp; omega) | (simp at *; omega))) | ((with_reducible refine Below.alloc ?_ ?_ _); rotate_left; · (first | omega | (simp; done) | (simp; omega) | (simp at *; omega))) | (with_reducible refine Below.drew ?_) | (with_reducible refine below_drewN ?_ _) | ((refine Below.trans ?_ (Below.mono (by with_reducible assumption) ?_)); rotate_left; · (first | omega | (simp; done) | (simp; omega) | (simp at *; omega)))))⟩
set_option maxHeartbeats 1000000 in
theorem rdone_ill10 (e n now : Int) (w : World) (h : Slot.Ok ⟨e, n, 10⟩) (ht : TimeOk now) :
    Calls Try.prog 18 #[.agg #[.int .i64 e, .int .i64 n, .int .i64 10], .int .i64 now, .bool false] w (SlotBack w ⟨e, now + e * 32, 10⟩) := by
  have HC := Lib.hid (fun W => rsound_yes _ W h)
  obtain ⟨h1, h2, h3, h4, h5, h6⟩ := id h
  simp only at h1 h2 h3 h4
  obtain ⟨t1, t2⟩ := ht
  have d1 : decide (now < 0) = false := decide_eq_false (by omega)
  have d2 : decide (1099511627776 < now) = false := decide_eq_false (by omega)
  clear h h5 h6
  go_enter Try.func18, Try.ntmps18
  go_wp2_with (go_at_call 24; refine (HC.out _).mono ?_; rintro e w1 ⟨rfl, hb1⟩; obtain ⟨b0, b1, b2, b3, b4, b5⟩ := (((Blk.new _ _ _).alloc _).below hb1 (by first | omega | (simp; done) | (simp; omega) | (simp at *; omega))).three; obtain ⟨r0, r1, r2, r3, r4, r5⟩ := ((Blk.new _ _ _).below hb1 (by first | omega | (simp; done) | (simp; omega) | (simp at *; omega))).three; have hz1 := hb1.size; simp only [World.size_alloc] at r0 r1 r2 r3 r4 r5 hz1)
  go_loopg [9, 10] 5 (fun g wv i wr => ∃ k : Nat, k ≤ 5 ∧ g = 5 - k ∧ i = .int .i64 k ∧ wv = .int .i64 (e * pw k) ∧ w1 = wr)
  case atStart => exact ⟨0, by omega, rfl, rfl, by simp [pw], rfl⟩
  case round =>
    obtain ⟨k, hk, rfl, rfl, rfl, rfl⟩ := hrel
    by_cases hlt : k < 5
    · obtain ⟨p1, p2, p3⟩ := pw_le e k 5 hlt (by omega) h1 h2
      have HP := Lib.hid p3
      clear p3
      obtain ⟨v, hv⟩ : ∃ v, v = e * pw k := ⟨_, rfl⟩
      rw [← hv] at p1 p2 ⊢
      have HV := Lib.hid hv
      clear hv
      go_wp2
      go_roundg (5 - (k + 1))
      case measure => omega
      case rel => exact ⟨k + 1, by omega, rfl, by go_num, by rw [← HP.out, ← HV.out], rfl⟩
    · obtain rfl : k = 5 := by omega
      clear hlt hk
      have hp : e * pw 5 = e * 32 := by simp [pw]
      rw [hp]
      clear hp
      go_wp2
      refine bodyPost_ret (v := .agg #[.int .i64 e, .int .i64 (now + e * 32), .int .i64 10]) ?_ ?_ ?_
      · simp [results, Try.results18, go_sem, r0, r1, r2]
      · rfl
      · exact ⟨rfl, by (repeat (first | (with_reducible assumption) | (with_reducible exact Below.refl _ _) | ((with_reducible refine Below.setCell ?_ ?_ _); rotate_left; · (first | omega | (simp; done) | (simp; omega) | (simp at *; omega))) | ((with_reducible refine Below.alloc ?_ ?_ _); rotate_left; · (first | omega | (simp; done) | (simp; omega) | (simp at *; omega))) | (with_reducible refine Below.drew ?_) | (with_reducible refine below_drewN ?_ _) | ((refine Below.trans ?_ (Below.mono (by with_reducible assumption) ?_)); rotate_left; · (first | omega | (simp; done) | (simp; omega) | (simp at *; omega)))))⟩
theorem rdone_ill (s : Slot) (now : Int) (w : World) (h : s.Ok) (ht : TimeOk now) :
    Calls Try.prog 18 #[.agg #[.int .i64 s.e, .int .i64 s.n, .int .i64 s.f], .int .i64 now, .bool false] w (SlotBack w (s.ill now)) := by
  obtain ⟨e, n, f⟩ := s
  have hf : f = 0 ∨ f = 1 ∨ f = 2 ∨ f = 3 ∨ f = 4 ∨ f = 5 ∨ f = 6 ∨ f = 7 ∨ f = 8 ∨ f = 9 ∨ f = 10 := by
    obtain ⟨_, _, _, _, h5, h6⟩ := h
    simp only at h5 h6
    omega
  rcases hf with rfl | rfl | rfl | rfl | rfl | rfl | rfl | rfl | rfl | rfl | rfl
  · have hi : Slot.ill ⟨e, n, 0⟩ now = ⟨e, now + e * 2, 1⟩ := by simp [Slot.ill, waitOf]; try omega
    rw [hi]
    exact rdone_ill0 e n now w h ht
  · have hi : Slot.ill ⟨e, n, 1⟩ now = ⟨e, now + e * 4, 2⟩ := by simp [Slot.ill, waitOf]; try omega
    rw [hi]
    exact rdone_ill1 e n now w h ht
  · have hi : Slot.ill ⟨e, n, 2⟩ now = ⟨e, now + e * 8, 3⟩ := by simp [Slot.ill, waitOf]; try omega
    rw [hi]
    exact rdone_ill2 e n now w h ht
  · have hi : Slot.ill ⟨e, n, 3⟩ now = ⟨e, now + e * 16, 4⟩ := by simp [Slot.ill, waitOf]; try omega
    rw [hi]
    exact rdone_ill3 e n now w h ht
  · have hi : Slot.ill ⟨e, n, 4⟩ now = ⟨e, now + e * 32, 5⟩ := by simp [Slot.ill, waitOf]; try omega
    rw [hi]
    exact rdone_ill4 e n now w h ht
  · have hi : Slot.ill ⟨e, n, 5⟩ now = ⟨e, now + e * 32, 6⟩ := by simp [Slot.ill, waitOf]; try omega
    rw [hi]
    exact rdone_ill5 e n now w h ht
  · have hi : Slot.ill ⟨e, n, 6⟩ now = ⟨e, now + e * 32, 7⟩ := by simp [Slot.ill, waitOf]; try omega
    rw [hi]
    exact rdone_ill6 e n now w h ht
  · have hi : Slot.ill ⟨e, n, 7⟩ now = ⟨e, now + e * 32, 8⟩ := by simp [Slot.ill, waitOf]; try omega
    rw [hi]
    exact rdone_ill7 e n now w h ht
  · have hi : Slot.ill ⟨e, n, 8⟩ now = ⟨e, now + e * 32, 9⟩ := by simp [Slot.ill, waitOf]; try omega
    rw [hi]
    exact rdone_ill8 e n now w h ht
  · have hi : Slot.ill ⟨e, n, 9⟩ now = ⟨e, now + e * 32, 10⟩ := by simp [Slot.ill, waitOf]; try omega
    rw [hi]
    exact rdone_ill9 e n now w h ht
  · have hi : Slot.ill ⟨e, n, 10⟩ now = ⟨e, now + e * 32, 10⟩ := by simp [Slot.ill, waitOf]; try omega
    rw [hi]
    exact rdone_ill10 e n now w h ht

theorem rdone_any (s : Slot) (now : Int) (ok : Bool) (w : World) :
    Calls Try.prog 18 #[.agg #[.int .i64 s.e, .int .i64 s.n, .int .i64 s.f], .int .i64 now, .bool ok] w (SlotBack w (s.done now ok)) := by
  by_cases h : s.Ok
  · by_cases ht : TimeOk now
    · cases ok
      · have hd : s.done now false = s.ill now := by simp [Slot.done, h, ht]
        rw [hd]
        exact rdone_ill s now w h ht
      · have hd : s.done now true = s.well now := by simp [Slot.done, h, ht]
        rw [hd]
        exact rdone_well s now w h ht
    · have hd : s.done now ok = s := by simp [Slot.done, ht]
      rw [hd]
      exact rdone_late s now ok w h (by unfold TimeOk at ht; omega)
  · have hd : s.done now ok = s := by simp [Slot.done, h]
    rw [hd]
    exact rdone_bad s now ok w h

/-- what New answers. -/
def newSlot (every now : Int) : Slot := if 1 ≤ every ∧ every ≤ 1048576 ∧ TimeOk now then ⟨every, now, 0⟩ else ⟨0, 0, 0⟩
def newErr (every now : Int) : Int := if 1 ≤ every ∧ every ≤ 1048576 ∧ TimeOk now then 0 else 3
def NewBack (w : World) (s : Slot) (n : Int) (e : Ending) (w' : World) : Prop := e = .returned (.tuple #[.agg #[.int .i64 s.e, .int .i64 s.n, .int .i64 s.f], .int .i64 n]) ∧ Below w.heap.size w w'

theorem new_any (every now : Int) (w : World) :
    Calls Try.prog 15 #[.int .i64 every, .int .i64 now] w (NewBack w (newSlot every now) (newErr every now)) := by
  by_cases h : 1 ≤ every ∧ every ≤ 1048576 ∧ TimeOk now
  · have h1 : newSlot every now = ⟨every, now, 0⟩ := if_pos h
    have h2 : newErr every now = 0 := if_pos h
    rw [h1, h2]
    obtain ⟨a1, a2, a3, a4⟩ := h
    have d1 : decide (every < 1) = false := decide_eq_false (by omega)
    have d2 : decide (1048576 < every) = false := decide_eq_false (by omega)
    have d3 : decide (now < 0) = false := decide_eq_false (by omega)
    have d4 : decide (1099511627776 < now) = false := decide_eq_false (by omega)
    go_enter Try.func15, Try.ntmps15
    go_wp2
    refine bodyPost_ret (v := .tuple #[.agg #[.int .i64 every, .int .i64 now, .int .i64 0], .int .i64 0]) ?_ ?_ ?_
    · simp [results, Try.results15, go_sem]
    · rfl
    · exact ⟨rfl, by (repeat (first | (with_reducible assumption) | (with_reducible exact Below.refl _ _) | ((with_reducible refine Below.setCell ?_ ?_ _); rotate_left; · (first | omega | (simp; done) | (simp; omega) | (simp at *; omega))) | ((with_reducible refine Below.alloc ?_ ?_ _); rotate_left; · (first | omega | (simp; done) | (simp; omega) | (simp at *; omega))) | (with_reducible refine Below.drew ?_) | (with_reducible refine below_drewN ?_ _) | ((refine Below.trans ?_ (Below.mono (by with_reducible assumption) ?_)); rotate_left; · (first | omega | (simp; done) | (simp; omega) | (simp at *; omega)))))⟩
  · have h1 : newSlot every now = ⟨0, 0, 0⟩ := if_neg h
    have h2 : newErr every now = 3 := if_neg h
    rw [h1, h2]
    have hc : every < 1 ∨ 1048576 < every ∨ now < 0 ∨ 1099511627776 < now := by unfold TimeOk at h; omega
    clear h h1 h2
    go_enter Try.func15, Try.ntmps15
    by_cases c1 : every < 1
    · go_wp2
      refine bodyPost_ret (v := .tuple #[.agg #[.int .i64 0, .int .i64 0, .int .i64 0], .int .i64 3]) ?_ ?_ ?_
      · simp [results, Try.results15, go_sem]
      · rfl
      · exact ⟨rfl, by (repeat (first | (with_reducible assumption) | (with_reducible exact Below.refl _ _) | ((with_reducible refine Below.setCell ?_ ?_ _); rotate_left; · (first | omega | (simp; done) | (simp; omega) | (simp at *; omega))) | ((with_reducible refine Below.alloc ?_ ?_ _); rotate_left; · (first | omega | (simp; done) | (simp; omega) | (simp at *; omega))) | (with_reducible refine Below.drew ?_) | (with_reducible refine below_drewN ?_ _) | ((refine Below.trans ?_ (Below.mono (by with_reducible assumption) ?_)); rotate_left; · (first | omega | (simp; done) | (simp; omega) | (simp at *; omega)))))⟩
    · by_cases c2 : 1048576 < every
      · go_wp2
        refine bodyPost_ret (v := .tuple #[.agg #[.int .i64 0, .int .i64 0, .int .i64 0], .int .i64 3]) ?_ ?_ ?_
        · simp [results, Try.results15, go_sem]
        · rfl
        · exact ⟨rfl, by (repeat (first | (with_reducible assumption) | (with_reducible exact Below.refl _ _) | ((with_reducible refine Below.setCell ?_ ?_ _); rotate_left; · (first | omega | (simp; done) | (simp; omega) | (simp at *; omega))) | ((with_reducible refine Below.alloc ?_ ?_ _); rotate_left; · (first | omega | (simp; done) | (simp; omega) | (simp at *; omega))) | (with_reducible refine Below.drew ?_) | (with_reducible refine below_drewN ?_ _) | ((refine Below.trans ?_ (Below.mono (by with_reducible assumption) ?_)); rotate_left; · (first | omega | (simp; done) | (simp; omega) | (simp at *; omega)))))⟩
      · by_cases c3 : now < 0
        · go_wp2
          refine bodyPost_ret (v := .tuple #[.agg #[.int .i64 0, .int .i64 0, .int .i64 0], .int .i64 3]) ?_ ?_ ?_
          · simp [results, Try.results15, go_sem]
          · rfl
          · exact ⟨rfl, by (repeat (first | (with_reducible assumption) | (with_reducible exact Below.refl _ _) | ((with_reducible refine Below.setCell ?_ ?_ _); rotate_left; · (first | omega | (simp; done) | (simp; omega) | (simp at *; omega))) | ((with_reducible refine Below.alloc ?_ ?_ _); rotate_left; · (first | omega | (simp; done) | (simp; omega) | (simp at *; omega))) | (with_reducible refine Below.drew ?_) | (with_reducible refine below_drewN ?_ _) | ((refine Below.trans ?_ (Below.mono (by with_reducible assumption) ?_)); rotate_left; · (first | omega | (simp; done) | (simp; omega) | (simp at *; omega)))))⟩
        · have c4 : 1099511627776 < now := by omega
          clear hc
          go_wp2
          refine bodyPost_ret (v := .tuple #[.agg #[.int .i64 0, .int .i64 0, .int .i64 0], .int .i64 3]) ?_ ?_ ?_
          · simp [results, Try.results15, go_sem]
          · rfl
          · exact ⟨rfl, by (repeat (first | (with_reducible assumption) | (with_reducible exact Below.refl _ _) | ((with_reducible refine Below.setCell ?_ ?_ _); rotate_left; · (first | omega | (simp; done) | (simp; omega) | (simp at *; omega))) | ((with_reducible refine Below.alloc ?_ ?_ _); rotate_left; · (first | omega | (simp; done) | (simp; omega) | (simp at *; omega))) | (with_reducible refine Below.drew ?_) | (with_reducible refine below_drewN ?_ _) | ((refine Below.trans ?_ (Below.mono (by with_reducible assumption) ?_)); rotate_left; · (first | omega | (simp; done) | (simp; omega) | (simp at *; omega)))))⟩
theorem rnew_any (every now : Int) (w : World) :
    Calls Try.prog 16 #[.int .i64 every, .int .i64 now] w (NewBack w (newSlot every now) (newErr every now)) := by
  by_cases h : 1 ≤ every ∧ every ≤ 1048576 ∧ TimeOk now
  · have h1 : newSlot every now = ⟨every, now, 0⟩ := if_pos h
    have h2 : newErr every now = 0 := if_pos h
    rw [h1, h2]
    obtain ⟨a1, a2, a3, a4⟩ := h
    have d1 : decide (every < 1) = false := decide_eq_false (by omega)
    have d2 : decide (1048576 < every) = false := decide_eq_false (by omega)
    have d3 : decide (now < 0) = false := decide_eq_false (by omega)
    have d4 : decide (1099511627776 < now) = false := decide_eq_false (by omega)
    go_enter Try.func16, Try.ntmps16
    go_wp2
    refine bodyPost_ret (v := .tuple #[.agg #[.int .i64 every, .int .i64 now, .int .i64 0], .int .i64 0]) ?_ ?_ ?_
    · simp [results, Try.results16, go_sem]
    · rfl
    · exact ⟨rfl, by (repeat (first | (with_reducible assumption) | (with_reducible exact Below.refl _ _) | ((with_reducible refine Below.setCell ?_ ?_ _); rotate_left; · (first | omega | (simp; done) | (simp; omega) | (simp at *; omega))) | ((with_reducible refine Below.alloc ?_ ?_ _); rotate_left; · (first | omega | (simp; done) | (simp; omega) | (simp at *; omega))) | (with_reducible refine Below.drew ?_) | (with_reducible refine below_drewN ?_ _) | ((refine Below.trans ?_ (Below.mono (by with_reducible assumption) ?_)); rotate_left; · (first | omega | (simp; done) | (simp; omega) | (simp at *; omega)))))⟩
  · have h1 : newSlot every now = ⟨0, 0, 0⟩ := if_neg h
    have h2 : newErr every now = 3 := if_neg h
    rw [h1, h2]
    have hc : every < 1 ∨ 1048576 < every ∨ now < 0 ∨ 1099511627776 < now := by unfold TimeOk at h; omega
    clear h h1 h2
    go_enter Try.func16, Try.ntmps16
    by_cases c1 : every < 1
    · go_wp2
      refine bodyPost_ret (v := .tuple #[.agg #[.int .i64 0, .int .i64 0, .int .i64 0], .int .i64 3]) ?_ ?_ ?_
      · simp [results, Try.results16, go_sem]
      · rfl
      · exact ⟨rfl, by (repeat (first | (with_reducible assumption) | (with_reducible exact Below.refl _ _) | ((with_reducible refine Below.setCell ?_ ?_ _); rotate_left; · (first | omega | (simp; done) | (simp; omega) | (simp at *; omega))) | ((with_reducible refine Below.alloc ?_ ?_ _); rotate_left; · (first | omega | (simp; done) | (simp; omega) | (simp at *; omega))) | (with_reducible refine Below.drew ?_) | (with_reducible refine below_drewN ?_ _) | ((refine Below.trans ?_ (Below.mono (by with_reducible assumption) ?_)); rotate_left; · (first | omega | (simp; done) | (simp; omega) | (simp at *; omega)))))⟩
    · by_cases c2 : 1048576 < every
      · go_wp2
        refine bodyPost_ret (v := .tuple #[.agg #[.int .i64 0, .int .i64 0, .int .i64 0], .int .i64 3]) ?_ ?_ ?_
        · simp [results, Try.results16, go_sem]
        · rfl
        · exact ⟨rfl, by (repeat (first | (with_reducible assumption) | (with_reducible exact Below.refl _ _) | ((with_reducible refine Below.setCell ?_ ?_ _); rotate_left; · (first | omega | (simp; done) | (simp; omega) | (simp at *; omega))) | ((with_reducible refine Below.alloc ?_ ?_ _); rotate_left; · (first | omega | (simp; done) | (simp; omega) | (simp at *; omega))) | (with_reducible refine Below.drew ?_) | (with_reducible refine below_drewN ?_ _) | ((refine Below.trans ?_ (Below.mono (by with_reducible assumption) ?_)); rotate_left; · (first | omega | (simp; done) | (simp; omega) | (simp at *; omega)))))⟩
      · by_cases c3 : now < 0
        · go_wp2
          refine bodyPost_ret (v := .tuple #[.agg #[.int .i64 0, .int .i64 0, .int .i64 0], .int .i64 3]) ?_ ?_ ?_
          · simp [results, Try.results16, go_sem]
          · rfl
          · exact ⟨rfl, by (repeat (first | (with_reducible assumption) | (with_reducible exact Below.refl _ _) | ((with_reducible refine Below.setCell ?_ ?_ _); rotate_left; · (first | omega | (simp; done) | (simp; omega) | (simp at *; omega))) | ((with_reducible refine Below.alloc ?_ ?_ _); rotate_left; · (first | omega | (simp; done) | (simp; omega) | (simp at *; omega))) | (with_reducible refine Below.drew ?_) | (with_reducible refine below_drewN ?_ _) | ((refine Below.trans ?_ (Below.mono (by with_reducible assumption) ?_)); rotate_left; · (first | omega | (simp; done) | (simp; omega) | (simp at *; omega)))))⟩
        · have c4 : 1099511627776 < now := by omega
          clear hc
          go_wp2
          refine bodyPost_ret (v := .tuple #[.agg #[.int .i64 0, .int .i64 0, .int .i64 0], .int .i64 3]) ?_ ?_ ?_
          · simp [results, Try.results16, go_sem]
          · rfl
          · exact ⟨rfl, by (repeat (first | (with_reducible assumption) | (with_reducible exact Below.refl _ _) | ((with_reducible refine Below.setCell ?_ ?_ _); rotate_left; · (first | omega | (simp; done) | (simp; omega) | (simp at *; omega))) | ((with_reducible refine Below.alloc ?_ ?_ _); rotate_left; · (first | omega | (simp; done) | (simp; omega) | (simp at *; omega))) | (with_reducible refine Below.drew ?_) | (with_reducible refine below_drewN ?_ _) | ((refine Below.trans ?_ (Below.mono (by with_reducible assumption) ?_)); rotate_left; · (first | omega | (simp; done) | (simp; omega) | (simp at *; omega)))))⟩
end Go.Proofs.Ytaccbkmlkmdmpaa
