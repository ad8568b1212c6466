/-
  What is proved here: the law BandRuns returns true for every band and all points. Conditions: none.
-/
import Derived.Test.YtjidfcogcgaclaaBandRRun
import Derived.Test.YtjidfcogcgaclaaBandOpen
import Derived.Test.YtjidfcogcgaclaaPointApart
namespace Go.Proofs.Ytjidfcogcgaclaa
namespace BandRuns
open Go.ChangeShapes Go.WideShapes Go.ChangeAt Go.RowKit Go.Deep

theorem has_of {w : World} {base : Nat} {v : Value} {L : List Point} (h : OwnG IsInt w base 27 2 v L.length (L.flatMap pcells)) : Has w v L := by
  rcases row_of_own h with ⟨rfl, rfl⟩ | ⟨g, c, rfl, _, _, hr⟩
  · exact ⟨none, 0, rfl, fun h => absurd h (by simp)⟩
  · exact ⟨_, _, rfl, hr.at_⟩
theorem lst_of {w : World} {base : Nat} {v : Value} {L : List Point} (h : OwnG IsInt w base 27 2 v L.length (L.flatMap pcells)) : Lst w v L.length := by
  rcases row_of_own h with ⟨rfl, rfl⟩ | ⟨g, c, rfl, _, hm, hr⟩
  · exact .inl ⟨rfl, rfl⟩
  · exact .inr ⟨g, c, rfl, hr.le, by unfold maxLen at hm; omega, hr.bare⟩
theorem base_of {w : World} {base : Nat} {v : Value} {L : List Point} (h : OwnG IsInt w base 27 2 v L.length (L.flatMap pcells)) {b : Nat} (hb : v.ownBlock = some b) : base ≤ b := by
  rcases row_of_own h with ⟨rfl, rfl⟩ | ⟨g, c, rfl, hg, _, _⟩
  · cases hb
  · cases hb; exact hg

set_option maxHeartbeats 2000000 in
theorem walk (A : Option Addr) (cap : Nat) (b : Band) (L : List Point) (w : World) (hA : PointsAt w A L) (hlen : L.length * 16 ≤ 140737488351232)
    (hL : ∀ i, i < L.length → I64 (L.getD i p0).v ∧ I64 (L.getD i p0).t) (hd : I64 b.dead) (hq : I64 b.quiet) :
    Calls Try.prog 4 #[.agg #[.int .i64 b.dead, .int .i64 b.quiet], .slice A L.length cap] w fun e w' => e = .returned (.bool true) ∧ Below w.heap.size w w' := by
  have HA := Lib.hid hA
  have HF := Lib.hid hL
  have HDQ := Lib.hid (And.intro hd hq)
  have HOL := Lib.hid (out_len b L L.length)
  obtain ⟨O, hO⟩ : ∃ O, O = outTo b L L.length := ⟨_, rfl⟩
  rw [← hO] at HOL
  have HO := Lib.hid hO
  clear hA hL hd hq hO
  go_enter Try.func4, Try.ntmps4
  go_wp2_with fail
  have hbA : Below w.heap.size w (w.alloc (.cells #[.int .i64 b.dead, .int .i64 b.quiet] 23)) := by (repeat (first | (with_reducible assumption) | (with_reducible exact Below.refl _ _) | ((with_reducible refine Below.setCell ?_ ?_ _); rotate_left; · (first | omega | (simp; done) | (simp; omega) | (simp at *; omega))) | ((with_reducible refine Below.alloc ?_ ?_ _); rotate_left; · (first | omega | (simp; done) | (simp; omega) | (simp at *; omega))) | (with_reducible refine Below.drew ?_) | (with_reducible refine below_drewN ?_ _) | ((refine Below.trans ?_ (Below.mono (by with_reducible assumption) ?_)); rotate_left; · (first | omega | (simp; done) | (simp; omega) | (simp at *; omega)))))
  refine (lent_points A cap L _ (HA.out.below hbA (Nat.le_refl _)) hlen).mono ?_
  rintro e w1 ⟨g, rfl, hg, hrow, hb1⟩
  have B1 := (Blk.new w 23 #[.int .i64 b.dead, .int .i64 b.quiet]).below hb1 (by first | omega | (simp; done) | (simp; omega) | (simp at *; omega))
  have hbw1 : Below w.heap.size w w1 := by (repeat (first | (with_reducible assumption) | (with_reducible exact Below.refl _ _) | ((with_reducible refine Below.setCell ?_ ?_ _); rotate_left; · (first | omega | (simp; done) | (simp; omega) | (simp at *; omega))) | ((with_reducible refine Below.alloc ?_ ?_ _); rotate_left; · (first | omega | (simp; done) | (simp; omega) | (simp at *; omega))) | (with_reducible refine Below.drew ?_) | (with_reducible refine below_drewN ?_ _) | ((refine Below.trans ?_ (Below.mono (by with_reducible assumption) ?_)); rotate_left; · (first | omega | (simp; done) | (simp; omega) | (simp at *; omega)))))
  have hgl := hrow.lt
  simp only [World.size_alloc] at hg
  have HROW := Lib.hid hrow
  clear hrow hbA hb1
  obtain ⟨c0, c1, _, _⟩ := B1.two
  go_wp2_with fail
  refine (run_any (some ⟨g, 0, none⟩) (L.length + 5) b L w1 HROW.out.begin hlen HF.out HDQ.out.1 HDQ.out.2).mono ?_
  rintro e w2 ⟨u, rfl, ho, hb2⟩
  rw [← HO.out] at ho
  obtain ⟨Au, cu, rfl, _⟩ := has_of ho
  have B2 := B1.below hb2 B1.lt
  have hl1 := B1.lt
  have hw2 := hb2.size; try simp only [World.size_alloc] at hw2
  have HU := Lib.hid (has_of ho)
  have HUL := Lib.hid (lst_of ho)
  have HUB := Lib.hid (fun b (h : (Value.slice Au O.length cu).ownBlock = some b) => base_of ho h)
  have HROW2 := Lib.hid (HROW.out.below hb2 hgl)
  have hbw2 : Below w.heap.size w w2 := by (repeat (first | (with_reducible assumption) | (with_reducible exact Below.refl _ _) | ((with_reducible refine Below.setCell ?_ ?_ _); rotate_left; · (first | omega | (simp; done) | (simp; omega) | (simp at *; omega))) | ((with_reducible refine Below.alloc ?_ ?_ _); rotate_left; · (first | omega | (simp; done) | (simp; omega) | (simp at *; omega))) | (with_reducible refine Below.drew ?_) | (with_reducible refine below_drewN ?_ _) | ((refine Below.trans ?_ (Below.mono (by with_reducible assumption) ?_)); rotate_left; · (first | omega | (simp; done) | (simp; omega) | (simp at *; omega)))))
  clear c0 c1 ho hb2 B1
  obtain ⟨c0, c1, _, _⟩ := B2.two
  go_wp2_with fail
  refine (rrun_any A cap b L w2 (HA.out.below hbw2 (Nat.le_refl _)) hlen HF.out HDQ.out.1 HDQ.out.2).mono ?_
  rintro e w3 ⟨r, rfl, hor, hb3⟩
  rw [← HO.out] at hor
  have HR := Lib.hid (has_of hor)
  have HU3 := Lib.hid (HU.out.below hb3)
  have HUL3 := Lib.hid (HUL.out.below hb3)
  have HROW3 := Lib.hid (HROW2.out.below hb3 (by omega))
  have hw3 := hb3.size; try simp only [World.size_alloc] at hw3
  have hbw3 : Below w.heap.size w w3 := by (repeat (first | (with_reducible assumption) | (with_reducible exact Below.refl _ _) | ((with_reducible refine Below.setCell ?_ ?_ _); rotate_left; · (first | omega | (simp; done) | (simp; omega) | (simp at *; omega))) | ((with_reducible refine Below.alloc ?_ ?_ _); rotate_left; · (first | omega | (simp; done) | (simp; omega) | (simp at *; omega))) | (with_reducible refine Below.drew ?_) | (with_reducible refine below_drewN ?_ _) | ((refine Below.trans ?_ (Below.mono (by with_reducible assumption) ?_)); rotate_left; · (first | omega | (simp; done) | (simp; omega) | (simp at *; omega)))))
  clear c0 c1 hor hb3
  go_wp2_with fail
  refine (same_lst HU3.out HR.out (by have := HOL.out; omega)).mono ?_
  rintro e w4 ⟨rfl, hb4⟩
  have HUL4 := Lib.hid (HUL3.out.below hb4)
  have HROW4 := Lib.hid (HROW3.out.below hb4 (by omega))
  have hw4 := hb4.size; try simp only [World.size_alloc] at hw4
  have hbw4 : Below w.heap.size w w4 := by (repeat (first | (with_reducible assumption) | (with_reducible exact Below.refl _ _) | ((with_reducible refine Below.setCell ?_ ?_ _); rotate_left; · (first | omega | (simp; done) | (simp; omega) | (simp at *; omega))) | ((with_reducible refine Below.alloc ?_ ?_ _); rotate_left; · (first | omega | (simp; done) | (simp; omega) | (simp at *; omega))) | (with_reducible refine Below.drew ?_) | (with_reducible refine below_drewN ?_ _) | ((refine Below.trans ?_ (Below.mono (by with_reducible assumption) ?_)); rotate_left; · (first | omega | (simp; done) | (simp; omega) | (simp at *; omega)))))
  clear hb4
  go_wp2_with fail
  refine (kept_points g _ A cap L w4 HROW4.out (HA.out.below hbw4 (Nat.le_refl _)) (by omega) rfl).mono ?_
  rintro e w5 ⟨rfl, hb5⟩
  have HUL5 := Lib.hid (HUL4.out.below hb5)
  have HROW5 := Lib.hid (HROW4.out.below hb5 (by omega))
  have hw5 := hb5.size; try simp only [World.size_alloc] at hw5
  have hbw5 : Below w.heap.size w w5 := by (repeat (first | (with_reducible assumption) | (with_reducible exact Below.refl _ _) | ((with_reducible refine Below.setCell ?_ ?_ _); rotate_left; · (first | omega | (simp; done) | (simp; omega) | (simp at *; omega))) | ((with_reducible refine Below.alloc ?_ ?_ _); rotate_left; · (first | omega | (simp; done) | (simp; omega) | (simp at *; omega))) | (with_reducible refine Below.drew ?_) | (with_reducible refine below_drewN ?_ _) | ((refine Below.trans ?_ (Below.mono (by with_reducible assumption) ?_)); rotate_left; · (first | omega | (simp; done) | (simp; omega) | (simp at *; omega)))))
  clear hb5
  go_wp2_with fail
  have hbX : Below w5.heap.size w5 (w5.alloc (.cells #[.slice Au O.length cu, .slice (some ⟨g, 0, none⟩) L.length (L.length + 5)] 33)) := by (repeat (first | (with_reducible assumption) | (with_reducible exact Below.refl _ _) | ((with_reducible refine Below.setCell ?_ ?_ _); rotate_left; · (first | omega | (simp; done) | (simp; omega) | (simp at *; omega))) | ((with_reducible refine Below.alloc ?_ ?_ _); rotate_left; · (first | omega | (simp; done) | (simp; omega) | (simp at *; omega))) | (with_reducible refine Below.drew ?_) | (with_reducible refine below_drewN ?_ _) | ((refine Below.trans ?_ (Below.mono (by with_reducible assumption) ?_)); rotate_left; · (first | omega | (simp; done) | (simp; omega) | (simp at *; omega)))))
  refine (apart_two w.heap.size w5.heap.size (.slice Au O.length cu) (.slice (some ⟨g, 0, none⟩) L.length (L.length + 5)) O.length L.length _
    ⟨HUL5.out.below hbX, .inr ⟨g, L.length + 5, rfl, by omega, by omega, (HROW5.out.below hbX (by omega)).bare⟩, by simp [go_sem], by simp [go_sem], by simp, by rw [World.size_alloc]; omega, Below.refl _ _⟩
    (fun b h1 h2 => by cases h2; have h3 : w1.heap.size ≤ g := HUB.out _ h1; omega) (fun b h => by have := HUB.out _ h; have := HUL5.out.lt h; omega) (fun b h => by cases h; show w.heap.size ≤ g ∧ g ≠ w5.heap.size; omega) (by have := HOL.out; omega) hlen).mono ?_
  rintro e w6 ⟨rfl, hb6⟩
  have hbw6 : Below w.heap.size w w6 := (hbw5.trans (hbX.mono (by omega))).trans hb6
  clear hb6 hbX
  go_wp2
  go_ret
  exact ⟨rfl, hbw6⟩

theorem own : ownKnob Try.prog.godebug = none := by kernel_rfl

set_option maxRecDepth 100000 in
theorem lifted (os : Os) (started : os.Started) (H : Type) (enc : TypeId × Value → H) :
    ReturnsInHanded {} Try.checked os 4 .any (Rows.bandRunsSpec.pre6 enc Try.prog Try.f4 Rows.bandRunsRow.domain false) (Rows.bandRunsSpec.post enc Try.prog Try.f4 false true false false) := by
  refine law_lifted (C := Try.checked) (tb := 4) own started (by kernel_rfl) Try.func4
    (ChangeSpec.witness6 (enc := enc) (C := Try.checked) false ⟨#[], #[.agg #[.int .i64 0, .int .i64 0], .slice none 0 0], []⟩ 8 (by kernel_rfl) (by kernel_rfl) (by kernel_rfl) (by kernel_rfl))
    rfl (by kernel_rfl) (by kernel_rfl) (by kernel_rfl) Try.underlying4 (fun ds h => ?_) ?_
  · rw [show Try.f4.params = #[23, 33] from Try.params4] at h
    match ds, h with
    | [_, _], _ => rfl
  · intro W base args ds before hval hA hlt hsz
    rw [show Try.f4.params = #[23, 33] from Try.params4] at hA hval hsz
    obtain ⟨v0, vs0, d0, ds0, p0, q0, hargs, rfl, rfl, h0, r0⟩ := trodAll_cons hA
    obtain ⟨v1, vs1, d1, ds1, p1, q1, rfl, rfl, rfl, h1, r1⟩ := trodAll_cons r0
    obtain ⟨rfl, rfl, rfl⟩ := trodAll_nil r1
    obtain rfl : args = #[v0, v1] := by cases args; simp_all
    obtain ⟨b, rfl, hd, hq⟩ := open_band (hval 0 _ v0 rfl rfl) h0
    obtain ⟨A, cap, L, rfl, hcap, hc16, hS, hF⟩ := open_points (hval 1 _ v1 rfl rfl) h1 hsz (j := 1) rfl rfl
    exact walk A cap b L W hS (by omega) hF hd hq

theorem proved : Rows.BandRunsSaid :=
  OpenClaim.holds_of_wide 4 Try.f4 rfl rfl rfl rfl rfl rfl rfl ⟨rfl, rfl, rfl, rfl, rfl⟩ rfl rfl rfl rfl rfl (by kernel_rfl) Try.func4 (by kernel_rfl)
    (of_decide_eq_true (by kernel_rfl)) (by unfold Func.isWrapper; rw [if_neg (of_decide_eq_false (by kernel_rfl))]; exact ⟨rfl, rfl⟩)
    (fun os started H enc _ => lifted os started H enc)
#print axioms proved
end BandRuns
end Go.Proofs.Ytjidfcogcgaclaa
