/-
  What is proved here: the law BandSteps returns true for every band, every held point and every point. Conditions: none.
-/
import Derived.Test.YtjidfcogcgaclaaBandRef
import Derived.Test.YtjidfcogcgaclaaBandOpen
import Derived.Deep.RegionHeld3
namespace Go.Proofs.Ytjidfcogcgaclaa
namespace BandSteps
open Go.ChangeShapes Go.WideShapes Go.ChangeAt Go.RowKit Go.Deep
attribute [local go_sem high] eq_held ne_held eqh_self

set_option maxHeartbeats 4000000 in
theorem walk (b : Band) (h : Held) (p : Point) (w : World) (h1 : I64 p.v) (h2 : I64 h.v) (h3 : I64 p.t) (h4 : I64 h.t) (hd : I64 b.dead) (hq : I64 b.quiet) :
    Calls Try.prog 3 #[.agg #[.int .i64 b.dead, .int .i64 b.quiet], .agg #[.bool h.has, .int .i64 h.v, .int .i64 h.t], .agg #[.int .i64 p.v, .int .i64 p.t]] w fun e w' => e = .returned (.bool true) ∧ Below w.heap.size w w' := by
  have HS := Lib.hid (fun W => step_any b h p W h1 h2 h3 h4 hd hq)
  have HR := Lib.hid (fun W => rstep_any b h p W h1 h2 h3 h4 hd hq)
  clear h1 h2 h3 h4 hd hq
  go_enter Try.func3, Try.ntmps3
  go_wp2_with fail
  refine (HS.out _).mono ?_
  rintro e w1 ⟨rfl, hb1⟩
  have A0 := (((Blk.new w 23 #[.int .i64 b.dead, .int .i64 b.quiet]).alloc (.cells #[.bool h.has, .int .i64 h.v, .int .i64 h.t] 25)).alloc (.cells #[.int .i64 p.v, .int .i64 p.t] 27)).below hb1 (by first | omega | (simp; done) | (simp; omega) | (simp at *; omega))
  have A1 := ((Blk.new _ 25 #[.bool h.has, .int .i64 h.v, .int .i64 h.t]).alloc (.cells #[.int .i64 p.v, .int .i64 p.t] 27)).below hb1 (by first | omega | (simp; done) | (simp; omega) | (simp at *; omega))
  have A2 := (Blk.new _ 27 #[.int .i64 p.v, .int .i64 p.t]).below hb1 (by first | omega | (simp; done) | (simp; omega) | (simp at *; omega))
  have hw1 := hb1.size; try simp only [World.size_alloc] at hw1
  simp only [World.size_alloc] at A0 A1 A2
  have hbw1 : Below w.heap.size w w1 := by (repeat (first | (with_reducible assumption) | (with_reducible exact Below.refl _ _) | ((with_reducible refine Below.setCell ?_ ?_ _); rotate_left; · (first | omega | (simp; done) | (simp; omega) | (simp at *; omega))) | ((with_reducible refine Below.alloc ?_ ?_ _); rotate_left; · (first | omega | (simp; done) | (simp; omega) | (simp at *; omega))) | (with_reducible refine Below.drew ?_) | (with_reducible refine below_drewN ?_ _) | ((refine Below.trans ?_ (Below.mono (by with_reducible assumption) ?_)); rotate_left; · (first | omega | (simp; done) | (simp; omega) | (simp at *; omega)))))
  clear hb1
  obtain ⟨a0, a1, _, _⟩ := A0.two
  obtain ⟨b0, b1, b2, _, _, _⟩ := A1.three
  obtain ⟨c0, c1, _, _⟩ := A2.two
  have hl1 : w.heap.size < w1.heap.size := by omega
  have hl2 : w.heap.size + 1 < w1.heap.size := by omega
  have hl3 : w.heap.size + 1 + 1 < w1.heap.size := by omega
  obtain ⟨y, hy⟩ : ∃ y, y = next b h p := ⟨_, rfl⟩
  obtain ⟨t, ht⟩ : ∃ t, t = told b h p := ⟨_, rfl⟩
  rw [← hy, ← ht] at HR ⊢
  clear hy ht HS
  go_wp2_with fail
  refine (HR.out _).mono ?_
  rintro e w2 ⟨rfl, hb2⟩
  have hw2 := hb2.size; try simp only [World.size_alloc] at hw2
  have B0 := (A0.alloc (.cells #[.bool y.has, .int .i64 y.v, .int .i64 y.t] 25)).below hb2 (by first | omega | (simp; done) | (simp; omega) | (simp at *; omega))
  have B1 := (Blk.new w1 25 #[.bool y.has, .int .i64 y.v, .int .i64 y.t]).below hb2 (by first | omega | (simp; done) | (simp; omega) | (simp at *; omega))
  have hbw2 : Below w.heap.size w w2 := by (repeat (first | (with_reducible assumption) | (with_reducible exact Below.refl _ _) | ((with_reducible refine Below.setCell ?_ ?_ _); rotate_left; · (first | omega | (simp; done) | (simp; omega) | (simp at *; omega))) | ((with_reducible refine Below.alloc ?_ ?_ _); rotate_left; · (first | omega | (simp; done) | (simp; omega) | (simp at *; omega))) | (with_reducible refine Below.drew ?_) | (with_reducible refine below_drewN ?_ _) | ((refine Below.trans ?_ (Below.mono (by with_reducible assumption) ?_)); rotate_left; · (first | omega | (simp; done) | (simp; omega) | (simp at *; omega)))))
  clear A0 A1 A2 a0 a1 b0 b1 b2 c0 c1 hb2 hbw1 HR
  go_wp2_with fail
  have hz3 : w2.heap.size < (w2.alloc (.cells #[.bool y.has, .int .i64 y.v, .int .i64 y.t] 25)).heap.size := by simp
  have hbw : Below w.heap.size w (w2.alloc (.cells #[.bool y.has, .int .i64 y.v, .int .i64 y.t] 25)) := hbw2.alloc (by omega) _
  obtain ⟨W, hW⟩ : ∃ W, W = w2.alloc (.cells #[.bool y.has, .int .i64 y.v, .int .i64 y.t] 25) := ⟨_, rfl⟩
  have B3 := B0.alloc (.cells #[.bool y.has, .int .i64 y.v, .int .i64 y.t] 25)
  have B4 := B1.alloc (.cells #[.bool y.has, .int .i64 y.v, .int .i64 y.t] 25)
  have B5 := Blk.new w2 25 #[.bool y.has, .int .i64 y.v, .int .i64 y.t]
  rw [← hW] at hz3 hbw B3 B4 B5 ⊢
  clear hW B0 B1
  obtain ⟨e0, e1, _, _⟩ := B3.two
  obtain ⟨f0, f1, f2, _, _, _⟩ := B4.three
  obtain ⟨g0, g1, g2, _, _, _⟩ := B5.three
  clear B3 B4 B5
  have hk2 : w1.heap.size < w2.heap.size := by omega
  have hk1 : w.heap.size < w2.heap.size := by omega
  go_region_held3 (fun w' => w'.cell? ⟨w.heap.size, 0, none⟩ = some (.int .i64 b.dead) ∧ w'.cell? ⟨w.heap.size, 1, none⟩ = some (.int .i64 b.quiet) ∧
      w'.cell? ⟨w1.heap.size, 0, none⟩ = some (.bool y.has) ∧ w'.cell? ⟨w1.heap.size, 1, none⟩ = some (.int .i64 y.v) ∧ w'.cell? ⟨w1.heap.size, 2, none⟩ = some (.int .i64 y.t) ∧
      w'.cell? ⟨w2.heap.size, 0, none⟩ = some (.bool y.has) ∧ w'.cell? ⟨w2.heap.size, 1, none⟩ = some (.int .i64 y.v) ∧ w'.cell? ⟨w2.heap.size, 2, none⟩ = some (.int .i64 y.t) ∧
      w2.heap.size < w'.heap.size ∧ Below w.heap.size w w')
    (first
      | exact ⟨e0, e1, f0, f1, f2, g0, g1, g2, hz3, hbw.drew⟩
      | (go_split_ands
         refine ⟨(hb.cell (p := ⟨w.heap.size, 0, none⟩) (by show w.heap.size < _; omega)).trans (by assumption), (hb.cell (p := ⟨w.heap.size, 1, none⟩) (by show w.heap.size < _; omega)).trans (by assumption),
           (hb.cell (p := ⟨w1.heap.size, 0, none⟩) (by show w1.heap.size < _; omega)).trans (by assumption), (hb.cell (p := ⟨w1.heap.size, 1, none⟩) (by show w1.heap.size < _; omega)).trans (by assumption), (hb.cell (p := ⟨w1.heap.size, 2, none⟩) (by show w1.heap.size < _; omega)).trans (by assumption),
           (hb.cell (p := ⟨w2.heap.size, 0, none⟩) (by show w2.heap.size < _; omega)).trans (by assumption), (hb.cell (p := ⟨w2.heap.size, 1, none⟩) (by show w2.heap.size < _; omega)).trans (by assumption), (hb.cell (p := ⟨w2.heap.size, 2, none⟩) (by show w2.heap.size < _; omega)).trans (by assumption),
           Nat.lt_of_lt_of_le (by assumption) hb.size, Below.trans (by assumption) (hb.mono (by omega))⟩))
    (first
      | (go_at_call 11; refine (check_any b _).mono ?_; rintro e w' ⟨rfl, hb⟩)
      | (go_at_call 12; refine (rcheck_any b _).mono ?_; rintro e w' ⟨rfl, hb⟩))
  go_wp2
  go_ret
  go_split_ands
  exact ⟨rfl, by assumption⟩

theorem own : ownKnob Try.prog.godebug = none := by kernel_rfl

set_option maxRecDepth 100000 in
theorem lifted (os : Os) (started : os.Started) (H : Type) (enc : TypeId × Value → H) :
    ReturnsInHanded {} Try.checked os 3 .any (Rows.bandStepsSpec.pre6 enc Try.prog Try.f3 Rows.bandStepsRow.domain false) (Rows.bandStepsSpec.post enc Try.prog Try.f3 false true false false) := by
  refine law_lifted (C := Try.checked) (tb := 4) own started (by kernel_rfl) Try.func3
    (ChangeSpec.witness6 (enc := enc) (C := Try.checked) false ⟨#[], #[.agg #[.int .i64 0, .int .i64 0], .agg #[.bool false, .int .i64 0, .int .i64 0], .agg #[.int .i64 0, .int .i64 0]], []⟩ 8 (by kernel_rfl) (by kernel_rfl) (by kernel_rfl) (by kernel_rfl))
    rfl (by kernel_rfl) (by kernel_rfl) (by kernel_rfl) Try.underlying4 (fun ds h => ?_) ?_
  · rw [show Try.f3.params = #[23, 25, 27] from Try.params3] at h
    match ds, h with
    | [_, _, _], _ => rfl
  · intro W base args ds before hval hA hlt hsz
    rw [show Try.f3.params = #[23, 25, 27] from Try.params3] at hA hval hsz
    obtain ⟨v0, vs0, d0, ds0, p0, q0, hargs, rfl, rfl, h0, r0⟩ := trodAll_cons hA
    obtain ⟨v1, vs1, d1, ds1, p1, q1, rfl, rfl, rfl, h1, r1⟩ := trodAll_cons r0
    obtain ⟨v2, vs2, d2, ds2, p2, q2, rfl, rfl, rfl, h2, r2⟩ := trodAll_cons r1
    obtain ⟨rfl, rfl, rfl⟩ := trodAll_nil r2
    obtain rfl : args = #[v0, v1, v2] := by cases args; simp_all
    obtain ⟨b, rfl, hd, hq⟩ := open_band (hval 0 _ v0 rfl rfl) h0
    obtain ⟨h, rfl, k2, k4⟩ := open_held (hval 1 _ v1 rfl rfl) h1
    obtain ⟨p, rfl, g1, g3⟩ := open_point (hval 2 _ v2 rfl rfl) h2
    exact walk b h p W g1 k2 g3 k4 hd hq

theorem proved : Rows.BandStepsSaid :=
  OpenClaim.holds_of_wide 3 Try.f3 rfl rfl rfl rfl rfl rfl rfl ⟨rfl, rfl, rfl, rfl, rfl⟩ rfl rfl rfl rfl rfl (by kernel_rfl) Try.func3 (by kernel_rfl)
    (of_decide_eq_true (by kernel_rfl)) (by unfold Func.isWrapper; rw [if_neg (of_decide_eq_false (by kernel_rfl))]; exact ⟨rfl, rfl⟩)
    (fun os started H enc _ => lifted os started H enc)
#print axioms proved
end BandSteps
end Go.Proofs.Ytjidfcogcgaclaa
