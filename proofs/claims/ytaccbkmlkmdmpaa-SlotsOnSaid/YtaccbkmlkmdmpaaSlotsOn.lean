/-
  What is proved here: the law SlotsOn returns true for every slot and every time. Conditions: none.
-/
import Derived.Test.YtaccbkmlkmdmpaaSlotKnown
import Derived.Test.YtaccbkmlkmdmpaaSlotOpen
import Derived.Deep.RegionHeld3
namespace Go.Proofs.Ytaccbkmlkmdmpaa
namespace SlotsOn
open Go.ChangeShapes Go.WideShapes Go.ChangeAt Go.RowKit Go.Deep
attribute [local go_sem high] eq_slot ne_slot eq3_self

/-- what a slot that may not be, or a time that may not be, makes of it: nothing. -/
theorem done_stays (s : Slot) (now : Int) (h : ¬ (s.Ok ∧ TimeOk now)) (ok : Bool) (w : World) :
    Calls Try.prog 17 #[.agg #[.int .i64 s.e, .int .i64 s.n, .int .i64 s.f], .int .i64 now, .bool ok] w (SlotBack w s) :=
  done_at s s now ok w (if_neg h)

set_option maxRecDepth 100000 in
set_option maxHeartbeats 2000000 in
theorem walk_bad (s : Slot) (now : Int) (w : World) (h : ¬ s.Ok) :
    Calls Try.prog 5 #[.agg #[.int .i64 s.e, .int .i64 s.n, .int .i64 s.f], .int .i64 now] w fun e w' => e = .returned (.bool true) ∧ Below w.heap.size w w' := by
  go_enter Try.func5, Try.ntmps5
  go_wp2_with fail
  refine (lsound_no s _ h).mono ?_
  rintro e w1 ⟨rfl, hb1⟩
  have B0 := (Blk.new w 29 #[.int .i64 s.e, .int .i64 s.n, .int .i64 s.f]).below hb1 (by first | omega | (simp; done) | (simp; omega) | (simp at *; omega))
  obtain ⟨e0, e1, e2, _, _, _⟩ := B0.three
  have hw1 := hb1.size; try simp only [World.size_alloc] at hw1
  have hl1 : w.heap.size < w1.heap.size := by omega
  have hbw : Below w.heap.size w w1 := by (repeat (first | (with_reducible assumption) | (with_reducible exact Below.refl _ _) | ((with_reducible refine Below.setCell ?_ ?_ _); rotate_left; · (first | omega | (simp; done) | (simp; omega) | (simp at *; omega))) | ((with_reducible refine Below.alloc ?_ ?_ _); rotate_left; · (first | omega | (simp; done) | (simp; omega) | (simp at *; omega))) | (with_reducible refine Below.drew ?_) | (with_reducible refine below_drewN ?_ _) | ((refine Below.trans ?_ (Below.mono (by with_reducible assumption) ?_)); rotate_left; · (first | omega | (simp; done) | (simp; omega) | (simp at *; omega)))))
  clear B0 hb1
  go_wp2_with fail
  go_region_held3 (fun w' => w'.cell? ⟨w.heap.size, 0, none⟩ = some (.int .i64 s.e) ∧ w'.cell? ⟨w.heap.size, 1, none⟩ = some (.int .i64 s.n) ∧ w'.cell? ⟨w.heap.size, 2, none⟩ = some (.int .i64 s.f) ∧ w.heap.size < w'.heap.size ∧ Below w.heap.size w w')
    (first
      | exact ⟨e0, e1, e2, hl1, hbw.drew⟩
      | (go_split_ands
         refine ⟨(hb.cell (p := ⟨w.heap.size, 0, none⟩) (by show w.heap.size < _; omega)).trans (by assumption), (hb.cell (p := ⟨w.heap.size, 1, none⟩) (by show w.heap.size < _; omega)).trans (by assumption), (hb.cell (p := ⟨w.heap.size, 2, none⟩) (by show w.heap.size < _; omega)).trans (by assumption),
           Nat.lt_of_lt_of_le (by assumption) hb.size, Below.trans (by assumption) (hb.mono (by omega))⟩))
    (first
      | (go_at_call 17; refine (done_stays s now (fun c => h c.1) _ _).mono ?_; rintro e w' ⟨rfl, hb⟩)
      | (go_at_call 20; refine (known_any _).mono ?_; rintro e w' ⟨rfl, hb⟩))
  go_wp2
  go_ret
  go_split_ands
  exact ⟨rfl, by assumption⟩

set_option maxRecDepth 100000 in
set_option maxHeartbeats 2000000 in
theorem walk_late (s : Slot) (now : Int) (w : World) (h : s.Ok) (ht : ¬ TimeOk now) :
    Calls Try.prog 5 #[.agg #[.int .i64 s.e, .int .i64 s.n, .int .i64 s.f], .int .i64 now] w fun e w' => e = .returned (.bool true) ∧ Below w.heap.size w w' := by
  have hc : now < 0 ∨ 1099511627776 < now := by unfold TimeOk at ht; omega
  have HT := Lib.hid ht
  clear ht
  rcases hc with hc | hc
  all_goals
    go_enter Try.func5, Try.ntmps5
    go_wp2_with fail
    refine (lsound_yes s _ h).mono ?_
    rintro e w1 ⟨rfl, hb1⟩
    have B0 := (Blk.new w 29 #[.int .i64 s.e, .int .i64 s.n, .int .i64 s.f]).below hb1 (by first | omega | (simp; done) | (simp; omega) | (simp at *; omega))
    obtain ⟨e0, e1, e2, _, _, _⟩ := B0.three
    have hw1 := hb1.size; try simp only [World.size_alloc] at hw1
    have hl1 : w.heap.size < w1.heap.size := by omega
    have hbw : Below w.heap.size w w1 := by (repeat (first | (with_reducible assumption) | (with_reducible exact Below.refl _ _) | ((with_reducible refine Below.setCell ?_ ?_ _); rotate_left; · (first | omega | (simp; done) | (simp; omega) | (simp at *; omega))) | ((with_reducible refine Below.alloc ?_ ?_ _); rotate_left; · (first | omega | (simp; done) | (simp; omega) | (simp at *; omega))) | (with_reducible refine Below.drew ?_) | (with_reducible refine below_drewN ?_ _) | ((refine Below.trans ?_ (Below.mono (by with_reducible assumption) ?_)); rotate_left; · (first | omega | (simp; done) | (simp; omega) | (simp at *; omega)))))
    clear B0 hb1
    go_wp2_with fail
    go_region_held3 (fun w' => w'.cell? ⟨w.heap.size, 0, none⟩ = some (.int .i64 s.e) ∧ w'.cell? ⟨w.heap.size, 1, none⟩ = some (.int .i64 s.n) ∧ w'.cell? ⟨w.heap.size, 2, none⟩ = some (.int .i64 s.f) ∧ w.heap.size < w'.heap.size ∧ Below w.heap.size w w')
      (first
        | exact ⟨e0, e1, e2, hl1, hbw.drew⟩
        | (go_split_ands
           refine ⟨(hb.cell (p := ⟨w.heap.size, 0, none⟩) (by show w.heap.size < _; omega)).trans (by assumption), (hb.cell (p := ⟨w.heap.size, 1, none⟩) (by show w.heap.size < _; omega)).trans (by assumption), (hb.cell (p := ⟨w.heap.size, 2, none⟩) (by show w.heap.size < _; omega)).trans (by assumption),
             Nat.lt_of_lt_of_le (by assumption) hb.size, Below.trans (by assumption) (hb.mono (by omega))⟩))
      (first
        | (go_at_call 17; refine (done_stays s now (fun c => HT.out c.2) _ _).mono ?_; rintro e w' ⟨rfl, hb⟩)
        | (go_at_call 20; refine (known_any _).mono ?_; rintro e w' ⟨rfl, hb⟩))
    go_wp2
    go_ret
    go_split_ands
    exact ⟨rfl, by assumption⟩

set_option maxRecDepth 100000 in
set_option maxHeartbeats 4000000 in
theorem walk_ok (s : Slot) (now : Int) (w : World) (h : s.Ok) (ht : TimeOk now) :
    Calls Try.prog 5 #[.agg #[.int .i64 s.e, .int .i64 s.n, .int .i64 s.f], .int .i64 now] w fun e w' => e = .returned (.bool true) ∧ Below w.heap.size w w' := by
  obtain ⟨an, ha, a1, a2, a3, a4, a5, a6, z1, z2⟩ := well_facts s now h ht
  obtain ⟨bn, bf, hbb, b1, b2, b3, b4, b5, b6, z3, z4⟩ := ill_facts s now h ht
  have HA := Lib.hid (fun W => done_at s _ now true W ha)
  have HB := Lib.hid (fun W => done_at s _ now false W hbb)
  have HS := Lib.hid (fun W => lsound_yes s W h)
  have HSB := Lib.hid (fun W => lsound_yes _ W b1)
  have HSA := Lib.hid (fun hh W => lsound_yes _ W (a6 hh))
  have a4' : ((an - s.n) % s.e == 0) = true := by rw [a4]; rfl
  have A5 := Lib.hid a5
  obtain ⟨h1, h2, h3, h4, h5, h6⟩ := id h
  obtain ⟨t1, t2⟩ := id ht
  obtain ⟨_, _, b7, b8, _, _⟩ := id b1
  dsimp only at b7 b8
  have d1 : decide (now < 0) = false := decide_eq_false (by omega)
  have d2 : decide (1099511627776 < now) = false := decide_eq_false (by omega)
  clear ha hbb h ht b1 a6 a4 a5 z1 z2 z3 z4
  go_enter Try.func5, Try.ntmps5
  go_wp2_with fail
  refine (HS.out _).mono ?_
  rintro e w1 ⟨rfl, hb1⟩
  have B0 := (Blk.new w 29 #[.int .i64 s.e, .int .i64 s.n, .int .i64 s.f]).below hb1 (by first | omega | (simp; done) | (simp; omega) | (simp at *; omega))
  obtain ⟨e0, e1, e2, _, _, _⟩ := B0.three
  have hw1 := hb1.size; try simp only [World.size_alloc] at hw1
  have hl1 : w.heap.size < w1.heap.size := by omega
  have hbw1 : Below w.heap.size w w1 := by (repeat (first | (with_reducible assumption) | (with_reducible exact Below.refl _ _) | ((with_reducible refine Below.setCell ?_ ?_ _); rotate_left; · (first | omega | (simp; done) | (simp; omega) | (simp at *; omega))) | ((with_reducible refine Below.alloc ?_ ?_ _); rotate_left; · (first | omega | (simp; done) | (simp; omega) | (simp at *; omega))) | (with_reducible refine Below.drew ?_) | (with_reducible refine below_drewN ?_ _) | ((refine Below.trans ?_ (Below.mono (by with_reducible assumption) ?_)); rotate_left; · (first | omega | (simp; done) | (simp; omega) | (simp at *; omega)))))
  clear hb1
  go_wp2_with fail
  refine (HA.out _).mono ?_
  rintro e w2 ⟨rfl, hb2⟩
  have B1 := B0.below hb2 hl1
  clear e0 e1 e2 B0
  obtain ⟨e0, e1, e2, _, _, _⟩ := B1.three
  have hw2 := hb2.size; try simp only [World.size_alloc] at hw2
  have hl2 : w.heap.size < w2.heap.size := by omega
  have hbw2 : Below w.heap.size w w2 := by (repeat (first | (with_reducible assumption) | (with_reducible exact Below.refl _ _) | ((with_reducible refine Below.setCell ?_ ?_ _); rotate_left; · (first | omega | (simp; done) | (simp; omega) | (simp at *; omega))) | ((with_reducible refine Below.alloc ?_ ?_ _); rotate_left; · (first | omega | (simp; done) | (simp; omega) | (simp at *; omega))) | (with_reducible refine Below.drew ?_) | (with_reducible refine below_drewN ?_ _) | ((refine Below.trans ?_ (Below.mono (by with_reducible assumption) ?_)); rotate_left; · (first | omega | (simp; done) | (simp; omega) | (simp at *; omega)))))
  clear hb2 hbw1
  go_wp2_with fail
  refine (HB.out _).mono ?_
  rintro e w3 ⟨rfl, hb3⟩
  have B2 := (B1.alloc _).below hb3 (by first | omega | (simp; done) | (simp; omega) | (simp at *; omega))
  have A2 := (Blk.new w2 29 #[.int .i64 s.e, .int .i64 an, .int .i64 0]).below hb3 (by first | omega | (simp; done) | (simp; omega) | (simp at *; omega))
  clear e0 e1 e2 B1
  have hw3 := hb3.size; try simp only [World.size_alloc] at hw3
  have hl3 : w.heap.size < w3.heap.size := by omega
  have hl4 : w2.heap.size < w3.heap.size := by omega
  have hbw3 : Below w.heap.size w w3 := by (repeat (first | (with_reducible assumption) | (with_reducible exact Below.refl _ _) | ((with_reducible refine Below.setCell ?_ ?_ _); rotate_left; · (first | omega | (simp; done) | (simp; omega) | (simp at *; omega))) | ((with_reducible refine Below.alloc ?_ ?_ _); rotate_left; · (first | omega | (simp; done) | (simp; omega) | (simp at *; omega))) | (with_reducible refine Below.drew ?_) | (with_reducible refine below_drewN ?_ _) | ((refine Below.trans ?_ (Below.mono (by with_reducible assumption) ?_)); rotate_left; · (first | omega | (simp; done) | (simp; omega) | (simp at *; omega)))))
  clear hb3 hbw2
  have B3 := B2.alloc (.cells #[.int .i64 s.e, .int .i64 bn, .int .i64 bf] 29)
  have A3 := A2.alloc (.cells #[.int .i64 s.e, .int .i64 bn, .int .i64 bf] 29)
  have C3 := Blk.new w3 29 #[.int .i64 s.e, .int .i64 bn, .int .i64 bf]
  have hbw4 : Below w.heap.size w (w3.alloc (.cells #[.int .i64 s.e, .int .i64 bn, .int .i64 bf] 29)) := by (repeat (first | (with_reducible assumption) | (with_reducible exact Below.refl _ _) | ((with_reducible refine Below.setCell ?_ ?_ _); rotate_left; · (first | omega | (simp; done) | (simp; omega) | (simp at *; omega))) | ((with_reducible refine Below.alloc ?_ ?_ _); rotate_left; · (first | omega | (simp; done) | (simp; omega) | (simp at *; omega))) | (with_reducible refine Below.drew ?_) | (with_reducible refine below_drewN ?_ _) | ((refine Below.trans ?_ (Below.mono (by with_reducible assumption) ?_)); rotate_left; · (first | omega | (simp; done) | (simp; omega) | (simp at *; omega)))))
  have HC := Lib.hid (known_any)
  obtain ⟨e0, e1, e2, _, _, _⟩ := B2.three
  obtain ⟨f0, f1, f2, _, _, _⟩ := A2.three
  by_cases hn : s.n ≤ 1099511627776
  · go_wp2_with fail
    refine (HSA.out hn _).mono ?_
    rintro e w5 ⟨rfl, hb5⟩
    have B5 := B3.below hb5 (by first | omega | (simp; done) | (simp; omega) | (simp at *; omega))
    have A5' := A3.below hb5 (by first | omega | (simp; done) | (simp; omega) | (simp at *; omega))
    have C5 := C3.below hb5 (by first | omega | (simp; done) | (simp; omega) | (simp at *; omega))
    have hw5 := hb5.size; try simp only [World.size_alloc] at hw5
    have hbw5 : Below w.heap.size w w5 := by (repeat (first | (with_reducible assumption) | (with_reducible exact Below.refl _ _) | ((with_reducible refine Below.setCell ?_ ?_ _); rotate_left; · (first | omega | (simp; done) | (simp; omega) | (simp at *; omega))) | ((with_reducible refine Below.alloc ?_ ?_ _); rotate_left; · (first | omega | (simp; done) | (simp; omega) | (simp at *; omega))) | (with_reducible refine Below.drew ?_) | (with_reducible refine below_drewN ?_ _) | ((refine Below.trans ?_ (Below.mono (by with_reducible assumption) ?_)); rotate_left; · (first | omega | (simp; done) | (simp; omega) | (simp at *; omega)))))
    clear hb5 e0 e1 e2 f0 f1 f2 B3 A3 C3 B2 A2
    obtain ⟨e0, e1, e2, _, _, _⟩ := B5.three
    obtain ⟨f0, f1, f2, _, _, _⟩ := A5'.three
    obtain ⟨g0, g1, g2, _, _, _⟩ := C5.three
    go_wp2_with fail
    refine (HSB.out _).mono ?_
    rintro e w6 ⟨rfl, hb6⟩
    have B6 := B5.below hb6 (by omega)
    have A6 := A5'.below hb6 (by omega)
    have C6 := C5.below hb6 (by omega)
    have hw6 := hb6.size; try simp only [World.size_alloc] at hw6
    have hbw6 : Below w.heap.size w w6 := by (repeat (first | (with_reducible assumption) | (with_reducible exact Below.refl _ _) | ((with_reducible refine Below.setCell ?_ ?_ _); rotate_left; · (first | omega | (simp; done) | (simp; omega) | (simp at *; omega))) | ((with_reducible refine Below.alloc ?_ ?_ _); rotate_left; · (first | omega | (simp; done) | (simp; omega) | (simp at *; omega))) | (with_reducible refine Below.drew ?_) | (with_reducible refine below_drewN ?_ _) | ((refine Below.trans ?_ (Below.mono (by with_reducible assumption) ?_)); rotate_left; · (first | omega | (simp; done) | (simp; omega) | (simp at *; omega)))))
    clear hb6 e0 e1 e2 f0 f1 f2 g0 g1 g2 B5 A5' C5
    obtain ⟨e0, e1, e2, _, _, _⟩ := B6.three
    obtain ⟨f0, f1, f2, _, _, _⟩ := A6.three
    obtain ⟨g0, g1, g2, _, _, _⟩ := C6.three
    by_cases hx : an - s.e ≤ now
    · go_wp2_with (go_at_call 20; refine (HC.out _).mono ?_; rintro e w7 ⟨rfl, hb7⟩)
      go_ret
      exact ⟨rfl, by (repeat (first | (with_reducible assumption) | (with_reducible exact Below.refl _ _) | ((with_reducible refine Below.setCell ?_ ?_ _); rotate_left; · (first | omega | (simp; done) | (simp; omega) | (simp at *; omega))) | ((with_reducible refine Below.alloc ?_ ?_ _); rotate_left; · (first | omega | (simp; done) | (simp; omega) | (simp at *; omega))) | (with_reducible refine Below.drew ?_) | (with_reducible refine below_drewN ?_ _) | ((refine Below.trans ?_ (Below.mono (by with_reducible assumption) ?_)); rotate_left; · (first | omega | (simp; done) | (simp; omega) | (simp at *; omega)))))⟩
    · have hx' : ((an - s.e) == s.n) = true := by rw [beq_iff_eq]; exact A5.out.resolve_left hx
      go_wp2_with (go_at_call 20; refine (HC.out _).mono ?_; rintro e w7 ⟨rfl, hb7⟩)
      go_ret
      exact ⟨rfl, by (repeat (first | (with_reducible assumption) | (with_reducible exact Below.refl _ _) | ((with_reducible refine Below.setCell ?_ ?_ _); rotate_left; · (first | omega | (simp; done) | (simp; omega) | (simp at *; omega))) | ((with_reducible refine Below.alloc ?_ ?_ _); rotate_left; · (first | omega | (simp; done) | (simp; omega) | (simp at *; omega))) | (with_reducible refine Below.drew ?_) | (with_reducible refine below_drewN ?_ _) | ((refine Below.trans ?_ (Below.mono (by with_reducible assumption) ?_)); rotate_left; · (first | omega | (simp; done) | (simp; omega) | (simp at *; omega)))))⟩
  · go_wp2_with fail
    refine (HSB.out _).mono ?_
    rintro e w6 ⟨rfl, hb6⟩
    have B6 := B3.below hb6 (by first | omega | (simp; done) | (simp; omega) | (simp at *; omega))
    have A6 := A3.below hb6 (by first | omega | (simp; done) | (simp; omega) | (simp at *; omega))
    have C6 := C3.below hb6 (by first | omega | (simp; done) | (simp; omega) | (simp at *; omega))
    have hw6 := hb6.size; try simp only [World.size_alloc] at hw6
    have hbw6 : Below w.heap.size w w6 := by (repeat (first | (with_reducible assumption) | (with_reducible exact Below.refl _ _) | ((with_reducible refine Below.setCell ?_ ?_ _); rotate_left; · (first | omega | (simp; done) | (simp; omega) | (simp at *; omega))) | ((with_reducible refine Below.alloc ?_ ?_ _); rotate_left; · (first | omega | (simp; done) | (simp; omega) | (simp at *; omega))) | (with_reducible refine Below.drew ?_) | (with_reducible refine below_drewN ?_ _) | ((refine Below.trans ?_ (Below.mono (by with_reducible assumption) ?_)); rotate_left; · (first | omega | (simp; done) | (simp; omega) | (simp at *; omega)))))
    clear hb6 e0 e1 e2 f0 f1 f2 B3 A3 C3 B2 A2
    obtain ⟨e0, e1, e2, _, _, _⟩ := B6.three
    obtain ⟨f0, f1, f2, _, _, _⟩ := A6.three
    obtain ⟨g0, g1, g2, _, _, _⟩ := C6.three
    by_cases hx : an - s.e ≤ now
    · go_wp2_with (go_at_call 20; refine (HC.out _).mono ?_; rintro e w7 ⟨rfl, hb7⟩)
      go_ret
      exact ⟨rfl, by (repeat (first | (with_reducible assumption) | (with_reducible exact Below.refl _ _) | ((with_reducible refine Below.setCell ?_ ?_ _); rotate_left; · (first | omega | (simp; done) | (simp; omega) | (simp at *; omega))) | ((with_reducible refine Below.alloc ?_ ?_ _); rotate_left; · (first | omega | (simp; done) | (simp; omega) | (simp at *; omega))) | (with_reducible refine Below.drew ?_) | (with_reducible refine below_drewN ?_ _) | ((refine Below.trans ?_ (Below.mono (by with_reducible assumption) ?_)); rotate_left; · (first | omega | (simp; done) | (simp; omega) | (simp at *; omega)))))⟩
    · have hx' : ((an - s.e) == s.n) = true := by rw [beq_iff_eq]; exact A5.out.resolve_left hx
      go_wp2_with (go_at_call 20; refine (HC.out _).mono ?_; rintro e w7 ⟨rfl, hb7⟩)
      go_ret
      exact ⟨rfl, by (repeat (first | (with_reducible assumption) | (with_reducible exact Below.refl _ _) | ((with_reducible refine Below.setCell ?_ ?_ _); rotate_left; · (first | omega | (simp; done) | (simp; omega) | (simp at *; omega))) | ((with_reducible refine Below.alloc ?_ ?_ _); rotate_left; · (first | omega | (simp; done) | (simp; omega) | (simp at *; omega))) | (with_reducible refine Below.drew ?_) | (with_reducible refine below_drewN ?_ _) | ((refine Below.trans ?_ (Below.mono (by with_reducible assumption) ?_)); rotate_left; · (first | omega | (simp; done) | (simp; omega) | (simp at *; omega)))))⟩

theorem walk (s : Slot) (now : Int) (w : World) :
    Calls Try.prog 5 #[.agg #[.int .i64 s.e, .int .i64 s.n, .int .i64 s.f], .int .i64 now] w fun e w' => e = .returned (.bool true) ∧ Below w.heap.size w w' := by
  by_cases h : s.Ok
  · by_cases ht : TimeOk now
    · exact walk_ok s now w h ht
    · exact walk_late s now w h ht
  · exact walk_bad s now w h

theorem own : ownKnob Try.prog.godebug = none := by kernel_rfl

set_option maxRecDepth 100000 in
theorem lifted (os : Os) (started : os.Started) (H : Type) (enc : TypeId × Value → H) :
    ReturnsInHanded {} Try.checked os 5 .any (Rows.slotsOnSpec.pre6 enc Try.prog Try.f5 Rows.slotsOnRow.domain false) (Rows.slotsOnSpec.post enc Try.prog Try.f5 false true false false) := by
  refine law_lifted (C := Try.checked) (tb := 4) own started (by kernel_rfl) Try.func5
    (ChangeSpec.witness6 (enc := enc) (C := Try.checked) false ⟨#[], #[.agg #[.int .i64 0, .int .i64 0, .int .i64 0], .int .i64 0], []⟩ 8 (by kernel_rfl) (by kernel_rfl) (by kernel_rfl) (by kernel_rfl))
    rfl (by kernel_rfl) (by kernel_rfl) (by kernel_rfl) Try.underlying4 (fun ds h => ?_) ?_
  · rw [show Try.f5.params = #[29, 3] from Try.params5] at h
    match ds, h with
    | [_, _], _ => rfl
  · intro W base args ds before hval hA hlt hsz
    rw [show Try.f5.params = #[29, 3] from Try.params5] at hA hval hsz
    obtain ⟨v0, vs0, d0, ds0, p0, q0, hargs, rfl, rfl, h0, r0⟩ := trodAll_cons hA
    obtain ⟨v1, vs1, d1, ds1, p1, q1, rfl, rfl, rfl, h1, r1⟩ := trodAll_cons r0
    obtain ⟨rfl, rfl, rfl⟩ := trodAll_nil r1
    obtain rfl : args = #[v0, v1] := by cases args; simp_all
    obtain ⟨s, rfl, _⟩ := open_slot (hval 0 _ v0 rfl rfl) h0
    obtain ⟨now, rfl, _, _, _⟩ := open_int Try.underlying3 (hval 1 3 v1 rfl rfl) h1
    exact walk s now W

theorem proved : Rows.SlotsOnSaid :=
  OpenClaim.holds_of_wide 5 Try.f5 rfl rfl rfl rfl rfl rfl rfl ⟨rfl, rfl, rfl, rfl, rfl⟩ rfl rfl rfl rfl rfl (by kernel_rfl) Try.func5 (by kernel_rfl)
    (of_decide_eq_true (by kernel_rfl)) (by unfold Func.isWrapper; rw [if_neg (of_decide_eq_false (by kernel_rfl))]; exact ⟨rfl, rfl⟩)
    (fun os started H enc _ => lifted os started H enc)
#print axioms proved
end SlotsOn
end Go.Proofs.Ytaccbkmlkmdmpaa
