/-
  What is proved here: the law BandKnown returns true. Conditions: none (it takes no input).
-/
import Derived.Test.YtjidfcogcgaclaaBandFacts
import Derived.Test.YtjidfcogcgaclaaBandOpen
namespace Go.Proofs.Ytjidfcogcgaclaa
namespace BandKnown
open Go.ChangeShapes Go.WideShapes Go.ChangeAt Go.RowKit Go.Deep
attribute [local go_sem high] eq_held ne_held eqh_self

theorem check_at (b : Band) (n : Int) (w : World) (h : bandErr b = n) :
    Calls Try.prog 11 #[.agg #[.int .i64 b.dead, .int .i64 b.quiet]] w fun e w' => e = .returned (.int .i64 n) ∧ Below w.heap.size w w' := by
  subst h
  exact check_any b w
theorem step_at (b : Band) (h r : Held) (p : Point) (t : Bool) (w : World) (h1 : I64 p.v) (h2 : I64 h.v) (h3 : I64 p.t) (h4 : I64 h.t) (hd : I64 b.dead) (hq : I64 b.quiet) (hr : next b h p = r) (ht : told b h p = t) :
    Calls Try.prog 9 #[.agg #[.int .i64 b.dead, .int .i64 b.quiet], .agg #[.bool h.has, .int .i64 h.v, .int .i64 h.t], .agg #[.int .i64 p.v, .int .i64 p.t]] w (StepBack w r t) := by
  subst hr ht
  exact step_any b h p w h1 h2 h3 h4 hd hq

set_option maxRecDepth 100000 in
set_option maxHeartbeats 4000000 in
theorem walk (w : World) :
    Calls Try.prog 8 #[] w fun e w' => e = .returned (.bool true) ∧ Below w.heap.size w w' := by
  go_enter Try.func8, Try.ntmps8
  go_wp2_with fail
  refine (check_at ⟨5,0⟩ 0 _ (by decide)).mono ?_
  rintro e w1 ⟨rfl, hb1⟩
  have hw1 := hb1.size; try simp only [World.size_alloc] at hw1
  have hbw1 : Below w.heap.size w w1 := by (repeat (first | (with_reducible assumption) | (with_reducible exact Below.refl _ _) | ((with_reducible refine Below.setCell ?_ ?_ _); rotate_left; · (first | omega | (simp; done) | (simp; omega) | (simp at *; omega))) | ((with_reducible refine Below.alloc ?_ ?_ _); rotate_left; · (first | omega | (simp; done) | (simp; omega) | (simp at *; omega))) | (with_reducible refine Below.drew ?_) | (with_reducible refine below_drewN ?_ _) | ((refine Below.trans ?_ (Below.mono (by with_reducible assumption) ?_)); rotate_left; · (first | omega | (simp; done) | (simp; omega) | (simp at *; omega)))))
  clear hb1
  go_wp2_with fail
  refine (check_at ⟨-1,0⟩ 26 _ (by decide)).mono ?_
  rintro e w2 ⟨rfl, hb2⟩
  have hw2 := hb2.size; try simp only [World.size_alloc] at hw2
  have hbw2 : Below w.heap.size w w2 := by (repeat (first | (with_reducible assumption) | (with_reducible exact Below.refl _ _) | ((with_reducible refine Below.setCell ?_ ?_ _); rotate_left; · (first | omega | (simp; done) | (simp; omega) | (simp at *; omega))) | ((with_reducible refine Below.alloc ?_ ?_ _); rotate_left; · (first | omega | (simp; done) | (simp; omega) | (simp at *; omega))) | (with_reducible refine Below.drew ?_) | (with_reducible refine below_drewN ?_ _) | ((refine Below.trans ?_ (Below.mono (by with_reducible assumption) ?_)); rotate_left; · (first | omega | (simp; done) | (simp; omega) | (simp at *; omega)))))
  clear hb2
  go_wp2_with fail
  refine (check_at ⟨0,-1⟩ 26 _ (by decide)).mono ?_
  rintro e w3 ⟨rfl, hb3⟩
  have hw3 := hb3.size; try simp only [World.size_alloc] at hw3
  have hbw3 : Below w.heap.size w w3 := by (repeat (first | (with_reducible assumption) | (with_reducible exact Below.refl _ _) | ((with_reducible refine Below.setCell ?_ ?_ _); rotate_left; · (first | omega | (simp; done) | (simp; omega) | (simp at *; omega))) | ((with_reducible refine Below.alloc ?_ ?_ _); rotate_left; · (first | omega | (simp; done) | (simp; omega) | (simp at *; omega))) | (with_reducible refine Below.drew ?_) | (with_reducible refine below_drewN ?_ _) | ((refine Below.trans ?_ (Below.mono (by with_reducible assumption) ?_)); rotate_left; · (first | omega | (simp; done) | (simp; omega) | (simp at *; omega)))))
  clear hb3
  go_wp2_with fail
  refine (check_at ⟨1099511627777,0⟩ 26 _ (by decide)).mono ?_
  rintro e w4 ⟨rfl, hb4⟩
  have hw4 := hb4.size; try simp only [World.size_alloc] at hw4
  have hbw4 : Below w.heap.size w w4 := by (repeat (first | (with_reducible assumption) | (with_reducible exact Below.refl _ _) | ((with_reducible refine Below.setCell ?_ ?_ _); rotate_left; · (first | omega | (simp; done) | (simp; omega) | (simp at *; omega))) | ((with_reducible refine Below.alloc ?_ ?_ _); rotate_left; · (first | omega | (simp; done) | (simp; omega) | (simp at *; omega))) | (with_reducible refine Below.drew ?_) | (with_reducible refine below_drewN ?_ _) | ((refine Below.trans ?_ (Below.mono (by with_reducible assumption) ?_)); rotate_left; · (first | omega | (simp; done) | (simp; omega) | (simp at *; omega)))))
  clear hb4
  go_wp2_with fail
  refine (check_at ⟨1099511627776,1099511627776⟩ 0 _ (by decide)).mono ?_
  rintro e w5 ⟨rfl, hb5⟩
  have hw5 := hb5.size; try simp only [World.size_alloc] at hw5
  have hbw5 : Below w.heap.size w w5 := by (repeat (first | (with_reducible assumption) | (with_reducible exact Below.refl _ _) | ((with_reducible refine Below.setCell ?_ ?_ _); rotate_left; · (first | omega | (simp; done) | (simp; omega) | (simp at *; omega))) | ((with_reducible refine Below.alloc ?_ ?_ _); rotate_left; · (first | omega | (simp; done) | (simp; omega) | (simp at *; omega))) | (with_reducible refine Below.drew ?_) | (with_reducible refine below_drewN ?_ _) | ((refine Below.trans ?_ (Below.mono (by with_reducible assumption) ?_)); rotate_left; · (first | omega | (simp; done) | (simp; omega) | (simp at *; omega)))))
  clear hb5
  go_wp2_with fail
  refine (check_at ⟨0,1099511627777⟩ 26 _ (by decide)).mono ?_
  rintro e w6 ⟨rfl, hb6⟩
  have hw6 := hb6.size; try simp only [World.size_alloc] at hw6
  have hbw6 : Below w.heap.size w w6 := by (repeat (first | (with_reducible assumption) | (with_reducible exact Below.refl _ _) | ((with_reducible refine Below.setCell ?_ ?_ _); rotate_left; · (first | omega | (simp; done) | (simp; omega) | (simp at *; omega))) | ((with_reducible refine Below.alloc ?_ ?_ _); rotate_left; · (first | omega | (simp; done) | (simp; omega) | (simp at *; omega))) | (with_reducible refine Below.drew ?_) | (with_reducible refine below_drewN ?_ _) | ((refine Below.trans ?_ (Below.mono (by with_reducible assumption) ?_)); rotate_left; · (first | omega | (simp; done) | (simp; omega) | (simp at *; omega)))))
  clear hb6
  go_wp2_with fail
  have HB := Lib.hid (Blk.new w6 27 #[.int .i64 1, .int .i64 0, .int .i64 1, .int .i64 2, .int .i64 1, .int .i64 3, .int .i64 1, .int .i64 5, .int .i64 1, .int .i64 6])
  refine (run_at _ 5 _ ⟨5, 3⟩ [⟨1, 0⟩, ⟨1, 2⟩, ⟨1, 3⟩, ⟨1, 5⟩, ⟨1, 6⟩] [⟨1, 0⟩, ⟨1, 3⟩, ⟨1, 6⟩] _ rfl (points_of_blk HB.out rfl) (by omega) (all_fit (by decide)) ⟨by decide, by decide⟩ ⟨by decide, by decide⟩ (by decide)).mono ?_
  rintro e w7 ⟨A, c, rfl, hA, hb7⟩
  have HA7 := Lib.hid hA
  have hw7 := hb7.size; try simp only [World.size_alloc] at hw7
  have hbw7 : Below w.heap.size w w7 := by (repeat (first | (with_reducible assumption) | (with_reducible exact Below.refl _ _) | ((with_reducible refine Below.setCell ?_ ?_ _); rotate_left; · (first | omega | (simp; done) | (simp; omega) | (simp at *; omega))) | ((with_reducible refine Below.alloc ?_ ?_ _); rotate_left; · (first | omega | (simp; done) | (simp; omega) | (simp at *; omega))) | (with_reducible refine Below.drew ?_) | (with_reducible refine below_drewN ?_ _) | ((refine Below.trans ?_ (Below.mono (by with_reducible assumption) ?_)); rotate_left; · (first | omega | (simp; done) | (simp; omega) | (simp at *; omega)))))
  clear hb7 hA HB
  go_wp2_with fail
  refine (step_at ⟨0, 0⟩ ⟨true, -9223372036854775808, 0⟩ ⟨true, 9223372036854775807, 0⟩ ⟨9223372036854775807, 0⟩ true _ ⟨by decide, by decide⟩ ⟨by decide, by decide⟩ ⟨by decide, by decide⟩ ⟨by decide, by decide⟩ ⟨by decide, by decide⟩ ⟨by decide, by decide⟩ (by first | rfl | simp [next, told, dist]) (by decide)).mono ?_
  rintro e w8 ⟨rfl, hb8⟩
  have HA8 := Lib.hid (HA7.out.below hb8 (Nat.le_refl _))
  have hw8 := hb8.size; try simp only [World.size_alloc] at hw8
  have hbw8 : Below w.heap.size w w8 := by (repeat (first | (with_reducible assumption) | (with_reducible exact Below.refl _ _) | ((with_reducible refine Below.setCell ?_ ?_ _); rotate_left; · (first | omega | (simp; done) | (simp; omega) | (simp at *; omega))) | ((with_reducible refine Below.alloc ?_ ?_ _); rotate_left; · (first | omega | (simp; done) | (simp; omega) | (simp at *; omega))) | (with_reducible refine Below.drew ?_) | (with_reducible refine below_drewN ?_ _) | ((refine Below.trans ?_ (Below.mono (by with_reducible assumption) ?_)); rotate_left; · (first | omega | (simp; done) | (simp; omega) | (simp at *; omega)))))
  clear hb8 HA7
  go_wp2_with fail
  refine (step_at ⟨0, 5⟩ ⟨true, 1, 9⟩ ⟨true, 1, 9⟩ ⟨1, 3⟩ false _ ⟨by decide, by decide⟩ ⟨by decide, by decide⟩ ⟨by decide, by decide⟩ ⟨by decide, by decide⟩ ⟨by decide, by decide⟩ ⟨by decide, by decide⟩ (by first | rfl | simp [next, told, dist]) (by decide)).mono ?_
  rintro e w9 ⟨rfl, hb9⟩
  have HA9 := Lib.hid ((HA8.out.below ((Below.refl w8.heap.size w8).alloc (Nat.le_refl _) _) (Nat.le_refl _)).below hb9 (Nat.le_refl _))
  have A9 := (Blk.new w8 25 #[.bool true, .int .i64 9223372036854775807, .int .i64 0]).below hb9 (by first | omega | (simp; done) | (simp; omega) | (simp at *; omega))
  have hw9 := hb9.size; try simp only [World.size_alloc] at hw9
  have hbw9 : Below w.heap.size w w9 := by (repeat (first | (with_reducible assumption) | (with_reducible exact Below.refl _ _) | ((with_reducible refine Below.setCell ?_ ?_ _); rotate_left; · (first | omega | (simp; done) | (simp; omega) | (simp at *; omega))) | ((with_reducible refine Below.alloc ?_ ?_ _); rotate_left; · (first | omega | (simp; done) | (simp; omega) | (simp at *; omega))) | (with_reducible refine Below.drew ?_) | (with_reducible refine below_drewN ?_ _) | ((refine Below.trans ?_ (Below.mono (by with_reducible assumption) ?_)); rotate_left; · (first | omega | (simp; done) | (simp; omega) | (simp at *; omega)))))
  clear hb9 HA8
  have HBA := Lib.hid A9
  clear A9
  go_wp2_with fail
  refine (step_at ⟨9223372036854775807, 9223372036854775807⟩ ⟨true, 0, -9223372036854775808⟩ ⟨true, 0, 9223372036854775807⟩ ⟨0, 9223372036854775807⟩ true _ ⟨by decide, by decide⟩ ⟨by decide, by decide⟩ ⟨by decide, by decide⟩ ⟨by decide, by decide⟩ ⟨by decide, by decide⟩ ⟨by decide, by decide⟩ (by first | rfl | simp [next, told, dist]) (by decide)).mono ?_
  rintro e w10 ⟨rfl, hb10⟩
  have HA10 := Lib.hid ((HA9.out.below ((Below.refl w9.heap.size w9).alloc (Nat.le_refl _) _) (Nat.le_refl _)).below hb10 (Nat.le_refl _))
  have A10 := (HBA.out.alloc (.cells #[.bool true, .int .i64 1, .int .i64 9] 25)).below hb10 (by first | omega | (simp; done) | (simp; omega) | (simp at *; omega))
  have B10 := (Blk.new w9 25 #[.bool true, .int .i64 1, .int .i64 9]).below hb10 (by first | omega | (simp; done) | (simp; omega) | (simp at *; omega))
  have hw10 := hb10.size; try simp only [World.size_alloc] at hw10
  have hbw10 : Below w.heap.size w w10 := by (repeat (first | (with_reducible assumption) | (with_reducible exact Below.refl _ _) | ((with_reducible refine Below.setCell ?_ ?_ _); rotate_left; · (first | omega | (simp; done) | (simp; omega) | (simp at *; omega))) | ((with_reducible refine Below.alloc ?_ ?_ _); rotate_left; · (first | omega | (simp; done) | (simp; omega) | (simp at *; omega))) | (with_reducible refine Below.drew ?_) | (with_reducible refine below_drewN ?_ _) | ((refine Below.trans ?_ (Below.mono (by with_reducible assumption) ?_)); rotate_left; · (first | omega | (simp; done) | (simp; omega) | (simp at *; omega)))))
  clear hb10 HA9 HBA
  obtain ⟨e0, e1, e2, _, _, _⟩ := A10.three
  obtain ⟨f0, f1, f2, _, _, _⟩ := B10.three
  have hl8 : w8.heap.size < w10.heap.size := by omega
  have hl9 : w9.heap.size < w10.heap.size := by omega
  clear A10 B10
  go_wp2_with fail
  have HC := Lib.hid (Blk.new (w10.alloc (.cells #[.bool true, .int .i64 0, .int .i64 9223372036854775807] 25)) 27 #[.int .i64 1, .int .i64 0, .int .i64 1, .int .i64 3, .int .i64 1, .int .i64 6])
  have HA11 := Lib.hid ((HA10.out.below ((Below.refl w10.heap.size w10).alloc (Nat.le_refl _) (.cells #[.bool true, .int .i64 0, .int .i64 9223372036854775807] 25)) (Nat.le_refl _)).below ((Below.refl _ _).alloc (Nat.le_refl _) (.cells #[.int .i64 1, .int .i64 0, .int .i64 1, .int .i64 3, .int .i64 1, .int .i64 6] 27)) (Nat.le_refl _))
  simp only [World.size_alloc] at HC
  refine (same_at _ _ 3 3 _ _ [⟨1, 0⟩, ⟨1, 3⟩, ⟨1, 6⟩] [⟨1, 0⟩, ⟨1, 3⟩, ⟨1, 6⟩] _ rfl rfl HA11.out (points_of_blk HC.out rfl) (by omega) rfl).mono ?_
  rintro e w11 ⟨rfl, hb11⟩
  have hw11 := hb11.size; try simp only [World.size_alloc] at hw11
  have hbw11 : Below w.heap.size w w11 := by (repeat (first | (with_reducible assumption) | (with_reducible exact Below.refl _ _) | ((with_reducible refine Below.setCell ?_ ?_ _); rotate_left; · (first | omega | (simp; done) | (simp; omega) | (simp at *; omega))) | ((with_reducible refine Below.alloc ?_ ?_ _); rotate_left; · (first | omega | (simp; done) | (simp; omega) | (simp at *; omega))) | (with_reducible refine Below.drew ?_) | (with_reducible refine below_drewN ?_ _) | ((refine Below.trans ?_ (Below.mono (by with_reducible assumption) ?_)); rotate_left; · (first | omega | (simp; done) | (simp; omega) | (simp at *; omega)))))
  clear hb11
  go_wp2_with fail
  refine (known_any _).mono ?_
  rintro e w12 ⟨rfl, hb12⟩
  have hw12 := hb12.size; try simp only [World.size_alloc] at hw12
  go_wp2_with fail
  go_ret
  exact ⟨rfl, by (repeat (first | (with_reducible assumption) | (with_reducible exact Below.refl _ _) | ((with_reducible refine Below.setCell ?_ ?_ _); rotate_left; · (first | omega | (simp; done) | (simp; omega) | (simp at *; omega))) | ((with_reducible refine Below.alloc ?_ ?_ _); rotate_left; · (first | omega | (simp; done) | (simp; omega) | (simp at *; omega))) | (with_reducible refine Below.drew ?_) | (with_reducible refine below_drewN ?_ _) | ((refine Below.trans ?_ (Below.mono (by with_reducible assumption) ?_)); rotate_left; · (first | omega | (simp; done) | (simp; omega) | (simp at *; omega)))))⟩

theorem own : ownKnob Try.prog.godebug = none := by kernel_rfl

set_option maxRecDepth 100000 in
theorem lifted (os : Os) (started : os.Started) (H : Type) (enc : TypeId × Value → H) :
    ReturnsInHanded {} Try.checked os 8 .any (Rows.bandKnownSpec.pre6 enc Try.prog Try.f8 Rows.bandKnownRow.domain false) (Rows.bandKnownSpec.post enc Try.prog Try.f8 false true false false) := by
  refine law_lifted (C := Try.checked) (tb := 4) own started (by kernel_rfl) Try.func8
    (ChangeSpec.witness6 (enc := enc) (C := Try.checked) false ⟨#[], #[], []⟩ 8 (by kernel_rfl) (by kernel_rfl) (by kernel_rfl) (by kernel_rfl))
    rfl (by kernel_rfl) (by kernel_rfl) (by kernel_rfl) Try.underlying4 (fun ds h => ?_) ?_
  · rw [show Try.f8.params = #[] from Try.params8] at h
    match ds, h with
    | [], _ => rfl
  · intro W base args ds before _ hA _ _
    obtain ⟨rfl, rfl, rfl⟩ := trodAll_none (show DataW.TrodAll enc Try.prog W 0 (fun _ => true) true [] args.toList ds before from hA)
    exact walk W

theorem proved : Rows.BandKnownSaid :=
  OpenClaim.holds_of_wide 8 Try.f8 rfl rfl rfl rfl rfl rfl rfl ⟨rfl, rfl, rfl, rfl, rfl⟩ rfl rfl rfl rfl rfl (by kernel_rfl) Try.func8 (by kernel_rfl)
    (of_decide_eq_true (by kernel_rfl)) (by unfold Func.isWrapper; rw [if_neg (of_decide_eq_false (by kernel_rfl))]; exact ⟨rfl, rfl⟩)
    (fun os started H enc _ => lifted os started H enc)
#print axioms proved
end BandKnown
end Go.Proofs.Ytjidfcogcgaclaa
