/-
  What is proved here: the law SlotsKnown returns true. Conditions: none (it takes no input).
-/
import Derived.Test.YtaccbkmlkmdmpaaSlotKnown
import Derived.Test.YtaccbkmlkmdmpaaSlotWake
import Derived.Test.YtaccbkmlkmdmpaaSlotOpen
namespace Go.Proofs.Ytaccbkmlkmdmpaa
namespace SlotsKnown
open Go.ChangeShapes Go.WideShapes Go.ChangeAt Go.RowKit Go.Deep
attribute [local go_sem high] eq_slot ne_slot eq3_self

theorem new_at (every now n : Int) (s : Slot) (w : World) (h1 : newSlot every now = s) (h2 : newErr every now = n) :
    Calls Try.prog 15 #[.int .i64 every, .int .i64 now] w (NewBack w s n) := by
  subst h1 h2
  exact new_any every now w
theorem due_at (A : Option Addr) (n cap : Nat) (L : List Slot) (now r : Int) (w : World) (hn : L.length = n) (hA : SlotsAt w A L) (hlen : n ≤ 10) (hr : dueTo L now n = r) :
    Calls Try.prog 10 #[.slice A n cap, .int .i64 now] w fun e w' => e = .returned (.int .i64 r) ∧ Below w.heap.size w w' := by
  subst hn hr
  exact due_any A cap L now w hA (by omega)
theorem wake_at (A : Option Addr) (n cap : Nat) (L : List Slot) (r : Int) (w : World) (hn : L.length = n) (hA : SlotsAt w A L) (hcap : n ≤ cap) (hlen : cap ≤ 10) (hr : wakeTo L n = r) :
    Calls Try.prog 12 #[.slice A n cap] w fun e w' => e = .returned (.int .i64 r) ∧ Below w.heap.size w w' := by
  subst hn hr
  exact wake_any A cap L w hA hcap (by omega)
theorem at_three {w : World} {g : Nat} {a b c : Slot} (h : Blk w g 29 #[.int .i64 a.e, .int .i64 a.n, .int .i64 a.f, .int .i64 b.e, .int .i64 b.n, .int .i64 b.f, .int .i64 c.e, .int .i64 c.n, .int .i64 c.f]) : SlotsAt w (some ⟨g, 0, none⟩) [a, b, c] := by
  intro _
  refine ⟨g, 0, rfl, h.lt, fun i hi => ?_⟩
  have : i = 0 ∨ i = 1 ∨ i = 2 := by simp at hi; omega
  rcases this with rfl | rfl | rfl
  · exact ⟨h.cell 0, h.cell 1, h.cell 2⟩
  · exact ⟨h.cell 3, h.cell 4, h.cell 5⟩
  · exact ⟨h.cell 6, h.cell 7, h.cell 8⟩
theorem at_one {w : World} {g : Nat} {a : Slot} (h : Blk w g 29 #[.int .i64 a.e, .int .i64 a.n, .int .i64 a.f]) : SlotsAt w (some ⟨g, 0, none⟩) [a] := by
  intro _
  refine ⟨g, 0, rfl, h.lt, fun i hi => ?_⟩
  have : i = 0 := by simp at hi; omega
  subst this
  exact ⟨h.cell 0, h.cell 1, h.cell 2⟩
theorem at_none (w : World) : SlotsAt w none [] := fun h => absurd h (by simp)

set_option maxRecDepth 100000 in
set_option maxHeartbeats 4000000 in
theorem walk (w : World) :
    Calls Try.prog 8 #[] w fun e w' => e = .returned (.bool true) ∧ Below w.heap.size w w' := by
  go_enter Try.func8, Try.ntmps8
  go_wp2_with fail
  refine (new_at 0 7 3 ⟨0,0,0⟩ _ (by decide) (by decide)).mono ?_
  rintro e w1 ⟨rfl, hb1⟩
  have hw1 := hb1.size; try simp only [World.size_alloc] at hw1
  have hbw1 : Below w.heap.size w w1 := by (repeat (first | (with_reducible assumption) | (with_reducible exact Below.refl _ _) | ((with_reducible refine Below.setCell ?_ ?_ _); rotate_left; · (first | omega | (simp; done) | (simp; omega) | (simp at *; omega))) | ((with_reducible refine Below.alloc ?_ ?_ _); rotate_left; · (first | omega | (simp; done) | (simp; omega) | (simp at *; omega))) | (with_reducible refine Below.drew ?_) | (with_reducible refine below_drewN ?_ _) | ((refine Below.trans ?_ (Below.mono (by with_reducible assumption) ?_)); rotate_left; · (first | omega | (simp; done) | (simp; omega) | (simp at *; omega)))))
  clear hb1
  go_wp2_with fail
  refine (new_at 5 (-1) 3 ⟨0,0,0⟩ _ (by decide) (by decide)).mono ?_
  rintro e w2 ⟨rfl, hb2⟩
  have hw2 := hb2.size; try simp only [World.size_alloc] at hw2
  have hbw2 : Below w.heap.size w w2 := by (repeat (first | (with_reducible assumption) | (with_reducible exact Below.refl _ _) | ((with_reducible refine Below.setCell ?_ ?_ _); rotate_left; · (first | omega | (simp; done) | (simp; omega) | (simp at *; omega))) | ((with_reducible refine Below.alloc ?_ ?_ _); rotate_left; · (first | omega | (simp; done) | (simp; omega) | (simp at *; omega))) | (with_reducible refine Below.drew ?_) | (with_reducible refine below_drewN ?_ _) | ((refine Below.trans ?_ (Below.mono (by with_reducible assumption) ?_)); rotate_left; · (first | omega | (simp; done) | (simp; omega) | (simp at *; omega)))))
  clear hb2
  go_wp2_with fail
  refine (new_at 1048576 1099511627776 0 ⟨1048576,1099511627776,0⟩ _ (by decide) (by decide)).mono ?_
  rintro e w3 ⟨rfl, hb3⟩
  have hw3 := hb3.size; try simp only [World.size_alloc] at hw3
  have hbw3 : Below w.heap.size w w3 := by (repeat (first | (with_reducible assumption) | (with_reducible exact Below.refl _ _) | ((with_reducible refine Below.setCell ?_ ?_ _); rotate_left; · (first | omega | (simp; done) | (simp; omega) | (simp at *; omega))) | ((with_reducible refine Below.alloc ?_ ?_ _); rotate_left; · (first | omega | (simp; done) | (simp; omega) | (simp at *; omega))) | (with_reducible refine Below.drew ?_) | (with_reducible refine below_drewN ?_ _) | ((refine Below.trans ?_ (Below.mono (by with_reducible assumption) ?_)); rotate_left; · (first | omega | (simp; done) | (simp; omega) | (simp at *; omega)))))
  clear hb3
  go_wp2_with fail
  refine (new_at 1048577 0 3 ⟨0,0,0⟩ _ (by decide) (by decide)).mono ?_
  rintro e w4 ⟨rfl, hb4⟩
  have hw4 := hb4.size; try simp only [World.size_alloc] at hw4
  have hbw4 : Below w.heap.size w w4 := by (repeat (first | (with_reducible assumption) | (with_reducible exact Below.refl _ _) | ((with_reducible refine Below.setCell ?_ ?_ _); rotate_left; · (first | omega | (simp; done) | (simp; omega) | (simp at *; omega))) | ((with_reducible refine Below.alloc ?_ ?_ _); rotate_left; · (first | omega | (simp; done) | (simp; omega) | (simp at *; omega))) | (with_reducible refine Below.drew ?_) | (with_reducible refine below_drewN ?_ _) | ((refine Below.trans ?_ (Below.mono (by with_reducible assumption) ?_)); rotate_left; · (first | omega | (simp; done) | (simp; omega) | (simp at *; omega)))))
  clear hb4
  go_wp2_with fail
  refine (new_at 1 1099511627777 3 ⟨0,0,0⟩ _ (by decide) (by decide)).mono ?_
  rintro e w5 ⟨rfl, hb5⟩
  have hw5 := hb5.size; try simp only [World.size_alloc] at hw5
  have hbw5 : Below w.heap.size w w5 := by (repeat (first | (with_reducible assumption) | (with_reducible exact Below.refl _ _) | ((with_reducible refine Below.setCell ?_ ?_ _); rotate_left; · (first | omega | (simp; done) | (simp; omega) | (simp at *; omega))) | ((with_reducible refine Below.alloc ?_ ?_ _); rotate_left; · (first | omega | (simp; done) | (simp; omega) | (simp at *; omega))) | (with_reducible refine Below.drew ?_) | (with_reducible refine below_drewN ?_ _) | ((refine Below.trans ?_ (Below.mono (by with_reducible assumption) ?_)); rotate_left; · (first | omega | (simp; done) | (simp; omega) | (simp at *; omega)))))
  clear hb5
  go_wp2_with fail
  refine (done_at ⟨5,7,3⟩ ⟨5,12,0⟩ 7 true _ (by decide)).mono ?_
  rintro e w6 ⟨rfl, hb6⟩
  have hw6 := hb6.size; try simp only [World.size_alloc] at hw6
  have hbw6 : Below w.heap.size w w6 := by (repeat (first | (with_reducible assumption) | (with_reducible exact Below.refl _ _) | ((with_reducible refine Below.setCell ?_ ?_ _); rotate_left; · (first | omega | (simp; done) | (simp; omega) | (simp at *; omega))) | ((with_reducible refine Below.alloc ?_ ?_ _); rotate_left; · (first | omega | (simp; done) | (simp; omega) | (simp at *; omega))) | (with_reducible refine Below.drew ?_) | (with_reducible refine below_drewN ?_ _) | ((refine Below.trans ?_ (Below.mono (by with_reducible assumption) ?_)); rotate_left; · (first | omega | (simp; done) | (simp; omega) | (simp at *; omega)))))
  clear hb6
  go_wp2_with fail
  refine (done_at ⟨5,7,9⟩ ⟨5,168,10⟩ 8 false _ (by decide)).mono ?_
  rintro e w7 ⟨rfl, hb7⟩
  have hw7 := hb7.size; try simp only [World.size_alloc] at hw7
  have hbw7 : Below w.heap.size w w7 := by (repeat (first | (with_reducible assumption) | (with_reducible exact Below.refl _ _) | ((with_reducible refine Below.setCell ?_ ?_ _); rotate_left; · (first | omega | (simp; done) | (simp; omega) | (simp at *; omega))) | ((with_reducible refine Below.alloc ?_ ?_ _); rotate_left; · (first | omega | (simp; done) | (simp; omega) | (simp at *; omega))) | (with_reducible refine Below.drew ?_) | (with_reducible refine below_drewN ?_ _) | ((refine Below.trans ?_ (Below.mono (by with_reducible assumption) ?_)); rotate_left; · (first | omega | (simp; done) | (simp; omega) | (simp at *; omega)))))
  clear hb7
  go_wp2_with fail
  refine (done_at ⟨5,7,10⟩ ⟨5,168,10⟩ 8 false _ (by decide)).mono ?_
  rintro e w8 ⟨rfl, hb8⟩
  have hw8 := hb8.size; try simp only [World.size_alloc] at hw8
  have hbw8 : Below w.heap.size w w8 := by (repeat (first | (with_reducible assumption) | (with_reducible exact Below.refl _ _) | ((with_reducible refine Below.setCell ?_ ?_ _); rotate_left; · (first | omega | (simp; done) | (simp; omega) | (simp at *; omega))) | ((with_reducible refine Below.alloc ?_ ?_ _); rotate_left; · (first | omega | (simp; done) | (simp; omega) | (simp at *; omega))) | (with_reducible refine Below.drew ?_) | (with_reducible refine below_drewN ?_ _) | ((refine Below.trans ?_ (Below.mono (by with_reducible assumption) ?_)); rotate_left; · (first | omega | (simp; done) | (simp; omega) | (simp at *; omega)))))
  clear hb8
  go_wp2_with fail
  refine (done_at ⟨0,7,0⟩ ⟨0,7,0⟩ 8 true _ (by decide)).mono ?_
  rintro e w9 ⟨rfl, hb9⟩
  have hw9 := hb9.size; try simp only [World.size_alloc] at hw9
  have hbw9 : Below w.heap.size w w9 := by (repeat (first | (with_reducible assumption) | (with_reducible exact Below.refl _ _) | ((with_reducible refine Below.setCell ?_ ?_ _); rotate_left; · (first | omega | (simp; done) | (simp; omega) | (simp at *; omega))) | ((with_reducible refine Below.alloc ?_ ?_ _); rotate_left; · (first | omega | (simp; done) | (simp; omega) | (simp at *; omega))) | (with_reducible refine Below.drew ?_) | (with_reducible refine below_drewN ?_ _) | ((refine Below.trans ?_ (Below.mono (by with_reducible assumption) ?_)); rotate_left; · (first | omega | (simp; done) | (simp; omega) | (simp at *; omega)))))
  clear hb9
  go_wp2_with fail
  refine (done_at ⟨5,90,0⟩ ⟨5,95,0⟩ 8 true _ (by decide)).mono ?_
  rintro e w10 ⟨rfl, hb10⟩
  have hw10 := hb10.size; try simp only [World.size_alloc] at hw10
  have hbw10 : Below w.heap.size w w10 := by (repeat (first | (with_reducible assumption) | (with_reducible exact Below.refl _ _) | ((with_reducible refine Below.setCell ?_ ?_ _); rotate_left; · (first | omega | (simp; done) | (simp; omega) | (simp at *; omega))) | ((with_reducible refine Below.alloc ?_ ?_ _); rotate_left; · (first | omega | (simp; done) | (simp; omega) | (simp at *; omega))) | (with_reducible refine Below.drew ?_) | (with_reducible refine below_drewN ?_ _) | ((refine Below.trans ?_ (Below.mono (by with_reducible assumption) ?_)); rotate_left; · (first | omega | (simp; done) | (simp; omega) | (simp at *; omega)))))
  clear hb10
  go_wp2_with fail
  refine (due_at _ 3 3 [⟨5, 9, 0⟩, ⟨5, 3, 0⟩, ⟨5, 3, 0⟩] 3 1 _ rfl (at_three (Blk.new _ _ _)) (by omega) (by decide)).mono ?_
  rintro e w11 ⟨rfl, hb11⟩
  have B11 := (Blk.new w10 29 #[.int .i64 5, .int .i64 9, .int .i64 0, .int .i64 5, .int .i64 3, .int .i64 0, .int .i64 5, .int .i64 3, .int .i64 0]).below hb11 (by first | omega | (simp; done) | (simp; omega) | (simp at *; omega))
  have hw11 := hb11.size; try simp only [World.size_alloc] at hw11
  have hbw11 : Below w.heap.size w w11 := by (repeat (first | (with_reducible assumption) | (with_reducible exact Below.refl _ _) | ((with_reducible refine Below.setCell ?_ ?_ _); rotate_left; · (first | omega | (simp; done) | (simp; omega) | (simp at *; omega))) | ((with_reducible refine Below.alloc ?_ ?_ _); rotate_left; · (first | omega | (simp; done) | (simp; omega) | (simp at *; omega))) | (with_reducible refine Below.drew ?_) | (with_reducible refine below_drewN ?_ _) | ((refine Below.trans ?_ (Below.mono (by with_reducible assumption) ?_)); rotate_left; · (first | omega | (simp; done) | (simp; omega) | (simp at *; omega)))))
  clear hb11
  go_wp2_with fail
  refine (due_at _ 3 3 [⟨5, 9, 0⟩, ⟨5, 3, 0⟩, ⟨5, 3, 0⟩] 2 (-1) _ rfl (at_three B11) (by omega) (by decide)).mono ?_
  rintro e w12 ⟨rfl, hb12⟩
  have B12 := B11.below hb12 B11.lt
  have hw12 := hb12.size; try simp only [World.size_alloc] at hw12
  have hbw12 : Below w.heap.size w w12 := by (repeat (first | (with_reducible assumption) | (with_reducible exact Below.refl _ _) | ((with_reducible refine Below.setCell ?_ ?_ _); rotate_left; · (first | omega | (simp; done) | (simp; omega) | (simp at *; omega))) | ((with_reducible refine Below.alloc ?_ ?_ _); rotate_left; · (first | omega | (simp; done) | (simp; omega) | (simp at *; omega))) | (with_reducible refine Below.drew ?_) | (with_reducible refine below_drewN ?_ _) | ((refine Below.trans ?_ (Below.mono (by with_reducible assumption) ?_)); rotate_left; · (first | omega | (simp; done) | (simp; omega) | (simp at *; omega)))))
  clear hb12
  go_wp2_with fail
  refine (due_at none 0 0 [] 5 (-1) _ rfl (at_none _) (by omega) (by decide)).mono ?_
  rintro e w13 ⟨rfl, hb13⟩
  have B13 := B12.below hb13 B12.lt
  have hw13 := hb13.size; try simp only [World.size_alloc] at hw13
  have hbw13 : Below w.heap.size w w13 := by (repeat (first | (with_reducible assumption) | (with_reducible exact Below.refl _ _) | ((with_reducible refine Below.setCell ?_ ?_ _); rotate_left; · (first | omega | (simp; done) | (simp; omega) | (simp at *; omega))) | ((with_reducible refine Below.alloc ?_ ?_ _); rotate_left; · (first | omega | (simp; done) | (simp; omega) | (simp at *; omega))) | (with_reducible refine Below.drew ?_) | (with_reducible refine below_drewN ?_ _) | ((refine Below.trans ?_ (Below.mono (by with_reducible assumption) ?_)); rotate_left; · (first | omega | (simp; done) | (simp; omega) | (simp at *; omega)))))
  clear hb13
  go_wp2_with fail
  refine (wake_at _ 3 3 [⟨5, 9, 0⟩, ⟨5, 3, 0⟩, ⟨5, 3, 0⟩] 3 _ rfl (at_three B13) (by omega) (by omega) (by decide)).mono ?_
  rintro e w14 ⟨rfl, hb14⟩
  have hw14 := hb14.size; try simp only [World.size_alloc] at hw14
  have hbw14 : Below w.heap.size w w14 := by (repeat (first | (with_reducible assumption) | (with_reducible exact Below.refl _ _) | ((with_reducible refine Below.setCell ?_ ?_ _); rotate_left; · (first | omega | (simp; done) | (simp; omega) | (simp at *; omega))) | ((with_reducible refine Below.alloc ?_ ?_ _); rotate_left; · (first | omega | (simp; done) | (simp; omega) | (simp at *; omega))) | (with_reducible refine Below.drew ?_) | (with_reducible refine below_drewN ?_ _) | ((refine Below.trans ?_ (Below.mono (by with_reducible assumption) ?_)); rotate_left; · (first | omega | (simp; done) | (simp; omega) | (simp at *; omega)))))
  clear hb14
  go_wp2_with fail
  refine (wake_at none 0 0 [] (-1) _ rfl (at_none _) (by omega) (by omega) (by decide)).mono ?_
  rintro e w15 ⟨rfl, hb15⟩
  have hw15 := hb15.size; try simp only [World.size_alloc] at hw15
  have hbw15 : Below w.heap.size w w15 := by (repeat (first | (with_reducible assumption) | (with_reducible exact Below.refl _ _) | ((with_reducible refine Below.setCell ?_ ?_ _); rotate_left; · (first | omega | (simp; done) | (simp; omega) | (simp at *; omega))) | ((with_reducible refine Below.alloc ?_ ?_ _); rotate_left; · (first | omega | (simp; done) | (simp; omega) | (simp at *; omega))) | (with_reducible refine Below.drew ?_) | (with_reducible refine below_drewN ?_ _) | ((refine Below.trans ?_ (Below.mono (by with_reducible assumption) ?_)); rotate_left; · (first | omega | (simp; done) | (simp; omega) | (simp at *; omega)))))
  clear hb15
  go_wp2_with fail
  refine (wake_at _ 1 1 [⟨0, -5, 0⟩] (-5) _ rfl (at_one (Blk.new _ _ _)) (by omega) (by omega) (by decide)).mono ?_
  rintro e w16 ⟨rfl, hb16⟩
  have hw16 := hb16.size; try simp only [World.size_alloc] at hw16
  have hbw16 : Below w.heap.size w w16 := by (repeat (first | (with_reducible assumption) | (with_reducible exact Below.refl _ _) | ((with_reducible refine Below.setCell ?_ ?_ _); rotate_left; · (first | omega | (simp; done) | (simp; omega) | (simp at *; omega))) | ((with_reducible refine Below.alloc ?_ ?_ _); rotate_left; · (first | omega | (simp; done) | (simp; omega) | (simp at *; omega))) | (with_reducible refine Below.drew ?_) | (with_reducible refine below_drewN ?_ _) | ((refine Below.trans ?_ (Below.mono (by with_reducible assumption) ?_)); rotate_left; · (first | omega | (simp; done) | (simp; omega) | (simp at *; omega)))))
  clear hb16
  go_wp2_with fail
  refine (known_any _).mono ?_
  rintro e w17 ⟨rfl, hb17⟩
  have hw17 := hb17.size; try simp only [World.size_alloc] at hw17
  go_wp2_with fail
  go_ret
  exact ⟨rfl, by (repeat (first | (with_reducible assumption) | (with_reducible exact Below.refl _ _) | ((with_reducible refine Below.setCell ?_ ?_ _); rotate_left; · (first | omega | (simp; done) | (simp; omega) | (simp at *; omega))) | ((with_reducible refine Below.alloc ?_ ?_ _); rotate_left; · (first | omega | (simp; done) | (simp; omega) | (simp at *; omega))) | (with_reducible refine Below.drew ?_) | (with_reducible refine below_drewN ?_ _) | ((refine Below.trans ?_ (Below.mono (by with_reducible assumption) ?_)); rotate_left; · (first | omega | (simp; done) | (simp; omega) | (simp at *; omega)))))⟩

theorem own : ownKnob Try.prog.godebug = none := by kernel_rfl

set_option maxRecDepth 100000 in
theorem lifted (os : Os) (started : os.Started) (H : Type) (enc : TypeId × Value → H) :
    ReturnsInHanded {} Try.checked os 8 .any (Rows.slotsKnownSpec.pre6 enc Try.prog Try.f8 Rows.slotsKnownRow.domain false) (Rows.slotsKnownSpec.post enc Try.prog Try.f8 false true false false) := by
  refine law_lifted (C := Try.checked) (tb := 4) own started (by kernel_rfl) Try.func8
    (ChangeSpec.witness6 (enc := enc) (C := Try.checked) false ⟨#[], #[], []⟩ 8 (by kernel_rfl) (by kernel_rfl) (by kernel_rfl) (by kernel_rfl))
    rfl (by kernel_rfl) (by kernel_rfl) (by kernel_rfl) Try.underlying4 (fun ds h => ?_) ?_
  · rw [show Try.f8.params = #[] from Try.params8] at h
    match ds, h with
    | [], _ => rfl
  · intro W base args ds before _ hA _ _
    obtain ⟨rfl, rfl, rfl⟩ := trodAll_none (show DataW.TrodAll enc Try.prog W 0 (fun _ => true) true [] args.toList ds before from hA)
    exact walk W

theorem proved : Rows.SlotsKnownSaid :=
  OpenClaim.holds_of_wide 8 Try.f8 rfl rfl rfl rfl rfl rfl rfl ⟨rfl, rfl, rfl, rfl, rfl⟩ rfl rfl rfl rfl rfl (by kernel_rfl) Try.func8 (by kernel_rfl)
    (of_decide_eq_true (by kernel_rfl)) (by unfold Func.isWrapper; rw [if_neg (of_decide_eq_false (by kernel_rfl))]; exact ⟨rfl, rfl⟩)
    (fun os started H enc _ => lifted os started H enc)
#print axioms proved
end SlotsKnown
end Go.Proofs.Ytaccbkmlkmdmpaa
