/-
  What is proved here: the law AlarmSteps returns true for all it is given. Conditions: none.
-/
import Derived.Test.YtgkhdoklbbedpaaAlmKit
import Derived.Deep.CutBlock
namespace Go.Proofs.Ytgkhdoklbbedpaa
namespace AlarmSteps
open Go.ChangeShapes Go.WideShapes Go.ChangeAt Go.RowKit Go.Deep
attribute [local go_sem high] eq_alm ne_alm eqa_self

/-- what the walk holds on to. -/
def Hold (w : World) (l : Lim) (a : Alm) (wr : World) : Prop := LB wr w.heap.size l ∧ AB wr (w.heap.size + 1) a ∧ Below w.heap.size w wr
theorem Hold.below {w wr w' : World} {l : Lim} {a : Alm} (h : Hold w l a wr) (hb : Below wr.heap.size wr w') : Hold w l a w' :=
  ⟨Blk.below h.1 hb h.1.lt, h.2.1.below hb, h.2.2.trans (hb.mono h.2.2.size)⟩
theorem hold_start (w : World) (l : Lim) (a : Alm) : Hold w l a ((w.alloc (.cells l.cells 23)).alloc (.cells #[.int .i64 a.st, .bool a.wt] 25)) := by
  have h1 := Blk.new (w.alloc (.cells l.cells 23)) 25 #[.int .i64 a.st, .bool a.wt]
  simp only [World.size_alloc] at h1
  exact ⟨(Blk.new w 23 l.cells).alloc _, h1, by (repeat (first | (with_reducible assumption) | (with_reducible exact Below.refl _ _) | ((with_reducible refine Below.setCell ?_ ?_ _); rotate_left; · (first | omega | (simp; done) | (simp; omega) | (simp at *; omega))) | ((with_reducible refine Below.alloc ?_ ?_ _); rotate_left; · (first | omega | (simp; done) | (simp; omega) | (simp at *; omega))) | (with_reducible refine Below.drew ?_) | (with_reducible refine below_drewN ?_ _) | ((refine Below.trans ?_ (Below.mono (by with_reducible assumption) ?_)); rotate_left; · (first | omega | (simp; done) | (simp; omega) | (simp at *; omega)))))⟩
theorem step_to (l : Lim) (a r : Alm) (n v : Int) (w : World) (h : stepTo l a v = (r, n)) :
    Calls Try.prog 10 #[.agg #[.bool l.ul, .bool l.uh, .bool l.la, .int .i64 l.lo, .int .i64 l.hi, .int .i64 l.hy], .agg #[.int .i64 a.st, .bool a.wt], .int .i64 v] w fun e w' => e = .returned (.tuple #[.agg #[.int .i64 r.st, .bool r.wt], .int .i64 n]) ∧ Below w.heap.size w w' :=
  step_at l a r n v w h
theorem rstep_to (l : Lim) (a r : Alm) (n v : Int) (w : World) (h : stepTo l a v = (r, n)) :
    Calls Try.prog 14 #[.agg #[.bool l.ul, .bool l.uh, .bool l.la, .int .i64 l.lo, .int .i64 l.hi, .int .i64 l.hy], .agg #[.int .i64 a.st, .bool a.wt], .int .i64 v] w fun e w' => e = .returned (.tuple #[.agg #[.int .i64 r.st, .bool r.wt], .int .i64 n]) ∧ Below w.heap.size w w' := by
  refine (rstep_any l a v w).mono ?_
  rintro e w' ⟨rfl, hb⟩
  rw [h]
  exact ⟨rfl, hb⟩
theorem ack_to (a : Alm) (w : World) :
    Calls Try.prog 15 #[.agg #[.int .i64 a.st, .bool a.wt]] w fun e w' => e = .returned (.tuple #[.agg #[.int .i64 a.st, .bool false], .bool a.wt]) ∧ Below w.heap.size w w' := ack_any a w
theorem rack_to (a : Alm) (w : World) :
    Calls Try.prog 16 #[.agg #[.int .i64 a.st, .bool a.wt]] w fun e w' => e = .returned (.tuple #[.agg #[.int .i64 a.st, .bool false], .bool a.wt]) ∧ Below w.heap.size w w' := rack_any a w
theorem check_to (l : Lim) (w : World) :
    Calls Try.prog 13 #[.agg #[.bool l.ul, .bool l.uh, .bool l.la, .int .i64 l.lo, .int .i64 l.hi, .int .i64 l.hy]] w fun e w' => e = .returned (.int .i64 l.err) ∧ Below w.heap.size w w' := check_any l w
theorem rcheck_to (l : Lim) (w : World) :
    Calls Try.prog 17 #[.agg #[.bool l.ul, .bool l.uh, .bool l.la, .int .i64 l.lo, .int .i64 l.hi, .int .i64 l.hy]] w fun e w' => e = .returned (.int .i64 l.err) ∧ Below w.heap.size w w' := rcheck_any l w

set_option maxRecDepth 100000 in
set_option maxHeartbeats 4000000 in
theorem walk (l : Lim) (a : Alm) (v : Int) (w : World) :
    Calls Try.prog 6 #[.agg l.cells, .agg a.cells, .int .i64 v] w fun e w' => e = .returned (.bool true) ∧ Below w.heap.size w w' := by
  have H0 := Lib.hid (hold_start w l a)
  have HCL := Lib.hid (show l.cells = #[.bool l.ul, .bool l.uh, .bool l.la, .int .i64 l.lo, .int .i64 l.hi, .int .i64 l.hy] from rfl)
  have HAC := Lib.hid (show a.cells = #[.int .i64 a.st, .bool a.wt] from rfl)
  rw [HCL.out] at H0 ⊢
  rw [HAC.out]
  obtain ⟨⟨r, n⟩, hr⟩ : ∃ rn, rn = stepTo l a v := ⟨_, rfl⟩
  have HR := Lib.hid hr.symm
  clear hr
  go_enter Try.func6, Try.ntmps6
  go_upto_region 1 with fail
  obtain ⟨wa, hwa⟩ : ∃ wa : World, wa = ((w.alloc (.cells #[.bool l.ul, .bool l.uh, .bool l.la, .int .i64 l.lo, .int .i64 l.hi, .int .i64 l.hy] 23)).alloc (.cells #[.int .i64 a.st, .bool a.wt] 25)) := ⟨_, rfl⟩
  rw [← hwa] at H0 ⊢
  clear hwa
  go_upto_region 1 with fail
  go_cut [7, 8] (fun s1 s2 wx => ∃ g, s1 = .pointer (some ⟨g, 0, none⟩) ∧ s2 = .int .i64 n ∧ AB wx g r ∧ Below wa.heap.size wa wx)
  case first =>
    obtain ⟨k0, k1, k2, k3, k4, k5⟩ := H0.out.1.all
    obtain ⟨c0, c1, _, _⟩ := Blk.two H0.out.2.1
    go_wp2_with fail
    refine (step_to l a r n v _ HR.out).mono ?_
    rintro e w3 ⟨rfl, hb3⟩
    go_wp2_with fail
    go_meet
    exact ⟨_, rfl, rfl, Blk.new _ _ _, hb3.alloc hb3.size _⟩
  obtain ⟨g0, rfl, rfl, hX, hbx⟩ := hcut
  obtain ⟨wb, rfl⟩ : ∃ wq : World, wq = wc := ⟨_, rfl⟩
  have H1 := Lib.hid (H0.out.below hbx)
  have X0_0 := Lib.hid hX
  clear hX hbx H0
  go_upto_region 2 with fail
  go_cut [9, 10] (fun s1 s2 wx => ∃ g, s1 = .pointer (some ⟨g, 0, none⟩) ∧ s2 = .int .i64 n ∧ AB wx g r ∧ Below wb.heap.size wb wx)
  case first =>
    obtain ⟨k0, k1, k2, k3, k4, k5⟩ := H1.out.1.all
    obtain ⟨c0, c1, _, _⟩ := Blk.two H1.out.2.1
    go_wp2_with fail
    refine (rstep_to l a r n v _ HR.out).mono ?_
    rintro e w3 ⟨rfl, hb3⟩
    go_wp2_with fail
    go_meet
    exact ⟨_, rfl, rfl, Blk.new _ _ _, hb3.alloc hb3.size _⟩
  obtain ⟨g1, rfl, rfl, hX, hbx⟩ := hcut
  obtain ⟨wc, rfl⟩ : ∃ wq : World, wq = wc := ⟨_, rfl⟩
  have H2 := Lib.hid (H1.out.below hbx)
  have X1_1 := Lib.hid hX
  have X0_1 := Lib.hid (X0_0.out.below hbx)
  clear hX hbx H1 X0_0
  go_upto_region 3 with fail
  go_cut [11, 12] (fun s1 s2 wx => ∃ g, s1 = .pointer (some ⟨g, 0, none⟩) ∧ s2 = .bool a.wt ∧ AB wx g ⟨a.st, false⟩ ∧ Below wc.heap.size wc wx)
  case first =>
    obtain ⟨k0, k1, k2, k3, k4, k5⟩ := H2.out.1.all
    obtain ⟨c0, c1, _, _⟩ := Blk.two H2.out.2.1
    go_wp2_with fail
    refine (ack_to a _).mono ?_
    rintro e w3 ⟨rfl, hb3⟩
    go_wp2_with fail
    go_meet
    exact ⟨_, rfl, rfl, Blk.new _ _ _, hb3.alloc hb3.size _⟩
  obtain ⟨g2, rfl, rfl, hX, hbx⟩ := hcut
  obtain ⟨wd, rfl⟩ : ∃ wq : World, wq = wc := ⟨_, rfl⟩
  have H3 := Lib.hid (H2.out.below hbx)
  have X2_2 := Lib.hid hX
  have X0_2 := Lib.hid (X0_1.out.below hbx)
  have X1_2 := Lib.hid (X1_1.out.below hbx)
  clear hX hbx H2 X0_1 X1_1
  go_upto_region 4 with fail
  go_cut [13, 14] (fun s1 s2 wx => ∃ g, s1 = .pointer (some ⟨g, 0, none⟩) ∧ s2 = .bool a.wt ∧ AB wx g ⟨a.st, false⟩ ∧ Below wd.heap.size wd wx)
  case first =>
    obtain ⟨k0, k1, k2, k3, k4, k5⟩ := H3.out.1.all
    obtain ⟨c0, c1, _, _⟩ := Blk.two H3.out.2.1
    go_wp2_with fail
    refine (rack_to a _).mono ?_
    rintro e w3 ⟨rfl, hb3⟩
    go_wp2_with fail
    go_meet
    exact ⟨_, rfl, rfl, Blk.new _ _ _, hb3.alloc hb3.size _⟩
  obtain ⟨g3, rfl, rfl, hX, hbx⟩ := hcut
  obtain ⟨we, rfl⟩ : ∃ wq : World, wq = wc := ⟨_, rfl⟩
  have H4 := Lib.hid (H3.out.below hbx)
  have X3_3 := Lib.hid hX
  have X0_3 := Lib.hid (X0_2.out.below hbx)
  have X1_3 := Lib.hid (X1_2.out.below hbx)
  have X2_3 := Lib.hid (X2_2.out.below hbx)
  clear hX hbx H3 X0_2 X1_2 X2_2
  obtain ⟨k0, k1, k2, k3, k4, k5⟩ := H4.out.1.all
  have lk := H4.out.1.lt
  obtain ⟨p0, q0, _, _⟩ := Blk.two X0_3.out
  have l0 := Blk.lt X0_3.out
  obtain ⟨p1, q1, _, _⟩ := Blk.two X1_3.out
  have l1 := Blk.lt X1_3.out
  obtain ⟨p2, q2, _, _⟩ := Blk.two X2_3.out
  have l2 := Blk.lt X2_3.out
  obtain ⟨p3, q3, _, _⟩ := Blk.two X3_3.out
  have l3 := Blk.lt X3_3.out
  go_wp2_with fail
  go_region_held3 (fun w' => w'.cell? ⟨w.heap.size, 0, none⟩ = some (.bool l.ul) ∧ w'.cell? ⟨w.heap.size, 1, none⟩ = some (.bool l.uh) ∧ w'.cell? ⟨w.heap.size, 2, none⟩ = some (.bool l.la) ∧ w'.cell? ⟨w.heap.size, 3, none⟩ = some (.int .i64 l.lo) ∧ w'.cell? ⟨w.heap.size, 4, none⟩ = some (.int .i64 l.hi) ∧ w'.cell? ⟨w.heap.size, 5, none⟩ = some (.int .i64 l.hy) ∧ w'.cell? ⟨g0, 0, none⟩ = some (.int .i64 r.st) ∧ w'.cell? ⟨g0, 1, none⟩ = some (.bool r.wt) ∧ w'.cell? ⟨g1, 0, none⟩ = some (.int .i64 r.st) ∧ w'.cell? ⟨g1, 1, none⟩ = some (.bool r.wt) ∧ w'.cell? ⟨g2, 0, none⟩ = some (.int .i64 a.st) ∧ w'.cell? ⟨g2, 1, none⟩ = some (.bool false) ∧ w'.cell? ⟨g3, 0, none⟩ = some (.int .i64 a.st) ∧ w'.cell? ⟨g3, 1, none⟩ = some (.bool false) ∧ Below we.heap.size we w')
    (first
      | exact ⟨k0, k1, k2, k3, k4, k5, p0, q0, p1, q1, p2, q2, p3, q3, (Below.refl _ _).drew⟩
      | (go_split_ands; refine ⟨(hb.cell (p := ⟨w.heap.size, 0, none⟩) (Nat.lt_of_lt_of_le lk (Below.size (by assumption)))).trans (by assumption), (hb.cell (p := ⟨w.heap.size, 1, none⟩) (Nat.lt_of_lt_of_le lk (Below.size (by assumption)))).trans (by assumption), (hb.cell (p := ⟨w.heap.size, 2, none⟩) (Nat.lt_of_lt_of_le lk (Below.size (by assumption)))).trans (by assumption), (hb.cell (p := ⟨w.heap.size, 3, none⟩) (Nat.lt_of_lt_of_le lk (Below.size (by assumption)))).trans (by assumption), (hb.cell (p := ⟨w.heap.size, 4, none⟩) (Nat.lt_of_lt_of_le lk (Below.size (by assumption)))).trans (by assumption), (hb.cell (p := ⟨w.heap.size, 5, none⟩) (Nat.lt_of_lt_of_le lk (Below.size (by assumption)))).trans (by assumption), (hb.cell (p := ⟨g0, 0, none⟩) (Nat.lt_of_lt_of_le l0 (Below.size (by assumption)))).trans (by assumption), (hb.cell (p := ⟨g0, 1, none⟩) (Nat.lt_of_lt_of_le l0 (Below.size (by assumption)))).trans (by assumption), (hb.cell (p := ⟨g1, 0, none⟩) (Nat.lt_of_lt_of_le l1 (Below.size (by assumption)))).trans (by assumption), (hb.cell (p := ⟨g1, 1, none⟩) (Nat.lt_of_lt_of_le l1 (Below.size (by assumption)))).trans (by assumption), (hb.cell (p := ⟨g2, 0, none⟩) (Nat.lt_of_lt_of_le l2 (Below.size (by assumption)))).trans (by assumption), (hb.cell (p := ⟨g2, 1, none⟩) (Nat.lt_of_lt_of_le l2 (Below.size (by assumption)))).trans (by assumption), (hb.cell (p := ⟨g3, 0, none⟩) (Nat.lt_of_lt_of_le l3 (Below.size (by assumption)))).trans (by assumption), (hb.cell (p := ⟨g3, 1, none⟩) (Nat.lt_of_lt_of_le l3 (Below.size (by assumption)))).trans (by assumption), Below.trans (by assumption) (hb.mono (Below.size (by assumption)))⟩))
    (first
      | (go_at_call 13; refine (check_to l _).mono ?_; rintro e w' ⟨rfl, hb⟩)
      | (go_at_call 17; refine (rcheck_to l _).mono ?_; rintro e w' ⟨rfl, hb⟩)
      | (go_at_call 11; refine (works_any _).mono ?_; rintro e w' ⟨rfl, hb⟩))
  go_wp2_with fail
  go_ret
  go_split_ands
  exact ⟨rfl, H4.out.2.2.trans (Below.mono (by assumption) H4.out.2.2.size)⟩

theorem own : ownKnob Try.prog.godebug = none := by kernel_rfl

set_option maxRecDepth 100000 in
theorem lifted (os : Os) (started : os.Started) (H : Type) (enc : TypeId × Value → H) :
    ReturnsInHanded {} Try.checked os 6 .any (Rows.alarmStepsSpec.pre6 enc Try.prog Try.f6 Rows.alarmStepsRow.domain false) (Rows.alarmStepsSpec.post enc Try.prog Try.f6 false true false false) := by
  refine law_lifted (C := Try.checked) (tb := 4) own started (by kernel_rfl) Try.func6
    (ChangeSpec.witness6 (enc := enc) (C := Try.checked) false ⟨#[], #[.agg #[.bool false, .bool false, .bool false, .int .i64 0, .int .i64 0, .int .i64 0], .agg #[.int .i64 0, .bool false], .int .i64 0], []⟩ 8 (by kernel_rfl) (by kernel_rfl) (by kernel_rfl) (by kernel_rfl))
    rfl (by kernel_rfl) (by kernel_rfl) (by kernel_rfl) Try.underlying4 (fun ds h => ?_) ?_
  · rw [show Try.f6.params = #[23, 25, 3] from Try.params6] at h
    match ds, h with
    | [_, _, _], _ => rfl
  · intro W base args ds before hval hA hlt hsz
    rw [show Try.f6.params = #[23, 25, 3] from Try.params6] at hA hval hsz
    obtain ⟨v0, vs0, d0, ds0, p0, q0, hargs, rfl, rfl, h0, r0⟩ := trodAll_cons hA
    obtain ⟨v1, vs1, d1, ds1, p1, q1, rfl, rfl, rfl, h1, r1⟩ := trodAll_cons r0
    obtain ⟨v2, vs2, d2, ds2, p2, q2, rfl, rfl, rfl, h2, r2⟩ := trodAll_cons r1
    obtain ⟨rfl, rfl, rfl⟩ := trodAll_nil r2
    obtain rfl : args = #[v0, v1, v2] := by cases args; simp_all
    obtain ⟨l, rfl, _, _, _⟩ := open_lim (hval 0 _ v0 rfl rfl) h0
    obtain ⟨a, rfl⟩ := open_alm (hval 1 _ v1 rfl rfl) h1
    obtain ⟨v, rfl, _, _, _⟩ := open_int Try.underlying3 (hval 2 3 v2 rfl rfl) h2
    exact walk l a v W

theorem proved : Rows.AlarmStepsSaid :=
  OpenClaim.holds_of_wide 6 Try.f6 rfl rfl rfl rfl rfl rfl rfl ⟨rfl, rfl, rfl, rfl, rfl⟩ rfl rfl rfl rfl rfl (by kernel_rfl) Try.func6 (by kernel_rfl)
    (of_decide_eq_true (by kernel_rfl)) (by unfold Func.isWrapper; rw [if_neg (of_decide_eq_false (by kernel_rfl))]; exact ⟨rfl, rfl⟩)
    (fun os started H enc _ => lifted os started H enc)
#print axioms proved
end AlarmSteps
end Go.Proofs.Ytgkhdoklbbedpaa
