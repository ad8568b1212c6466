/-
  What is proved here: the law AlarmTells returns true for all it is given. Conditions: none.
-/
import Derived.Test.YtgkhdoklbbedpaaAlmKit
import Derived.Test.YtgkhdoklbbedpaaAlmFacts
import Derived.Deep.CutBlock
namespace Go.Proofs.Ytgkhdoklbbedpaa
namespace AlarmTells
open Go.ChangeShapes Go.WideShapes Go.ChangeAt Go.RowKit Go.Deep
attribute [local go_sem high] eq_alm ne_alm eqa_self

set_option maxRecDepth 100000 in
set_option maxHeartbeats 4000000 in
theorem walk (l : Lim) (a : Alm) (v : Int) (w : World) :
    Calls Try.prog 3 #[.agg l.cells, .agg a.cells, .int .i64 v] w fun e w' => e = .returned (.bool true) ∧ Below w.heap.size w w' := by
  have HCL := Lib.hid (show l.cells = #[.bool l.ul, .bool l.uh, .bool l.la, .int .i64 l.lo, .int .i64 l.hi, .int .i64 l.hy] from rfl)
  have HAC := Lib.hid (show a.cells = #[.int .i64 a.st, .bool a.wt] from rfl)
  have h0 : LB ((w.alloc (.cells #[.bool l.ul, .bool l.uh, .bool l.la, .int .i64 l.lo, .int .i64 l.hi, .int .i64 l.hy] 23)).alloc (.cells #[.int .i64 a.st, .bool a.wt] 25)) w.heap.size l ∧ AB ((w.alloc (.cells #[.bool l.ul, .bool l.uh, .bool l.la, .int .i64 l.lo, .int .i64 l.hi, .int .i64 l.hy] 23)).alloc (.cells #[.int .i64 a.st, .bool a.wt] 25)) (w.heap.size + 1) a ∧ Below w.heap.size w ((w.alloc (.cells #[.bool l.ul, .bool l.uh, .bool l.la, .int .i64 l.lo, .int .i64 l.hi, .int .i64 l.hy] 23)).alloc (.cells #[.int .i64 a.st, .bool a.wt] 25)) := by
    have h1 := Blk.new (w.alloc (.cells #[.bool l.ul, .bool l.uh, .bool l.la, .int .i64 l.lo, .int .i64 l.hi, .int .i64 l.hy] 23)) 25 #[.int .i64 a.st, .bool a.wt]
    simp only [World.size_alloc] at h1
    exact ⟨(Blk.new w 23 #[.bool l.ul, .bool l.uh, .bool l.la, .int .i64 l.lo, .int .i64 l.hi, .int .i64 l.hy]).alloc _, h1, by (repeat (first | (with_reducible assumption) | (with_reducible exact Below.refl _ _) | ((with_reducible refine Below.setCell ?_ ?_ _); rotate_left; · (first | omega | (simp; done) | (simp; omega) | (simp at *; omega))) | ((with_reducible refine Below.alloc ?_ ?_ _); rotate_left; · (first | omega | (simp; done) | (simp; omega) | (simp at *; omega))) | (with_reducible refine Below.drew ?_) | (with_reducible refine below_drewN ?_ _) | ((refine Below.trans ?_ (Below.mono (by with_reducible assumption) ?_)); rotate_left; · (first | omega | (simp; done) | (simp; omega) | (simp at *; omega)))))⟩
  have H0 := Lib.hid h0
  obtain ⟨⟨r, n⟩, hr⟩ : ∃ rn, rn = stepTo l a v := ⟨_, rfl⟩
  have HTW := Lib.hid (show stepTo l r v = (r, 0) by have := step_twice l a v; rw [← hr] at this; exact this)
  have HR := Lib.hid hr.symm
  rw [HCL.out, HAC.out]
  clear h0 hr
  go_enter Try.func3, Try.ntmps3
  go_upto_region 1 with fail
  obtain ⟨wa, hwa⟩ : ∃ wa : World, wa = ((w.alloc (.cells #[.bool l.ul, .bool l.uh, .bool l.la, .int .i64 l.lo, .int .i64 l.hi, .int .i64 l.hy] 23)).alloc (.cells #[.int .i64 a.st, .bool a.wt] 25)) := ⟨_, rfl⟩
  rw [← hwa] at H0 ⊢
  clear hwa
  go_upto_region 1 with fail
  go_cut [7, 8] (fun s1 s2 wx => ∃ g, s1 = .pointer (some ⟨g, 0, none⟩) ∧ s2 = .int .i64 n ∧ AB wx g r ∧ Below wa.heap.size wa wx)
  case first =>
    obtain ⟨k0, k1, k2, k3, k4, k5⟩ := LB.all H0.out.1
    obtain ⟨c0, c1, _, _⟩ := Blk.two H0.out.2.1
    go_wp2_with fail
    refine (step_to l a r n v _ HR.out).mono ?_
    rintro e w3 ⟨rfl, hb3⟩
    go_wp2_with fail
    go_meet
    exact ⟨_, rfl, rfl, Blk.new _ _ _, hb3.alloc hb3.size _⟩
  obtain ⟨gx, rfl, rfl, hX, hbx⟩ := hcut
  obtain ⟨wb, rfl⟩ : ∃ wq : World, wq = wc := ⟨_, rfl⟩
  have HL := Lib.hid (Blk.below H0.out.1 hbx (Blk.lt H0.out.1))
  have HA := Lib.hid (AB.below H0.out.2.1 hbx)
  have HW := Lib.hid (H0.out.2.2.trans (hbx.mono H0.out.2.2.size))
  have HX := Lib.hid hX
  clear hX hbx H0
  rcases step_ways l a v with hw | ⟨_, _, hl, hn1, hw⟩ | ⟨_, _, hl, hh, hn2, hw⟩ | ⟨_, _, hl, hh, hb, _, hw⟩
  · have hrn := HR.out.symm.trans hw
    injection hrn with e1 e2
    subst e1 e2
    clear hw
    obtain ⟨k0, k1, k2, k3, k4, k5⟩ := LB.all HL.out
    obtain ⟨c0, c1, _, _⟩ := Blk.two HA.out
    obtain ⟨d0, d1, _, _⟩ := Blk.two HX.out
    go_wp2_with fail
    refine (step_to l ⟨r.st, r.wt⟩ ⟨r.st, r.wt⟩ 0 v _ HTW.out).mono ?_
    rintro e w3 ⟨rfl, hb3⟩
    have HW3 := Lib.hid (HW.out.trans (hb3.mono HW.out.size))
    obtain ⟨d0', d1', _, _⟩ := Blk.two (AB.below HX.out hb3)
    have lx := Blk.lt (AB.below HX.out hb3)
    clear hb3 k0 k1 k2 k3 k4 k5 c0 c1 d0 d1
    go_wp2_with fail
    refine (works_any _).mono ?_
    rintro e w4 ⟨rfl, hb4⟩
    go_wp2_with fail
    go_ret
    exact ⟨rfl, (HW3.out.alloc HW3.out.size _).trans (hb4.mono (Nat.le_trans HW3.out.size (by simp)))⟩
  · have hrn := HR.out.symm.trans hw
    injection hrn with e1 e2
    subst e1 e2
    have hv : v ≤ l.lo := by unfold Lim.low at hl; simp at hl; exact hl.2
    have t1 : decide (l.lo < v) = false := decide_eq_false (by omega)
    have t2 : eqa 1 true a.st a.wt = false := decide_eq_false (fun h => hn1 h.1.symm)
    clear hw hl hn1 hv
    obtain ⟨k0, k1, k2, k3, k4, k5⟩ := LB.all HL.out
    obtain ⟨c0, c1, _, _⟩ := Blk.two HA.out
    obtain ⟨d0, d1, _, _⟩ := Blk.two HX.out
    go_wp2_with fail
    refine (step_to l ⟨1, true⟩ ⟨1, true⟩ 0 v _ HTW.out).mono ?_
    rintro e w3 ⟨rfl, hb3⟩
    have HW3 := Lib.hid (HW.out.trans (hb3.mono HW.out.size))
    obtain ⟨d0', d1', _, _⟩ := Blk.two (AB.below HX.out hb3)
    have lx := Blk.lt (AB.below HX.out hb3)
    clear hb3 k0 k1 k2 k3 k4 k5 c0 c1 d0 d1
    go_wp2_with fail
    refine (works_any _).mono ?_
    rintro e w4 ⟨rfl, hb4⟩
    go_wp2_with fail
    go_ret
    exact ⟨rfl, (HW3.out.alloc HW3.out.size _).trans (hb4.mono (Nat.le_trans HW3.out.size (by simp)))⟩
  · have hrn := HR.out.symm.trans hw
    injection hrn with e1 e2
    subst e1 e2
    have hv : l.hi ≤ v := by unfold Lim.high at hh; simp at hh; exact hh.2
    have t1 : decide (v < l.hi) = false := decide_eq_false (by omega)
    have t2 : eqa 2 true a.st a.wt = false := decide_eq_false (fun h => hn2 h.1.symm)
    clear hw hl hh hn2 hv
    obtain ⟨k0, k1, k2, k3, k4, k5⟩ := LB.all HL.out
    obtain ⟨c0, c1, _, _⟩ := Blk.two HA.out
    obtain ⟨d0, d1, _, _⟩ := Blk.two HX.out
    go_wp2_with fail
    refine (step_to l ⟨2, true⟩ ⟨2, true⟩ 0 v _ HTW.out).mono ?_
    rintro e w3 ⟨rfl, hb3⟩
    have HW3 := Lib.hid (HW.out.trans (hb3.mono HW.out.size))
    obtain ⟨d0', d1', _, _⟩ := Blk.two (AB.below HX.out hb3)
    have lx := Blk.lt (AB.below HX.out hb3)
    clear hb3 k0 k1 k2 k3 k4 k5 c0 c1 d0 d1
    go_wp2_with fail
    refine (works_any _).mono ?_
    rintro e w4 ⟨rfl, hb4⟩
    go_wp2_with fail
    go_ret
    exact ⟨rfl, (HW3.out.alloc HW3.out.size _).trans (hb4.mono (Nat.le_trans HW3.out.size (by simp)))⟩
  · have hrn := HR.out.symm.trans hw
    injection hrn with e1 e2
    subst e1 e2
    have hs0 : a.st ≠ 0 := by omega
    have t1 : (a.st == 0) = false := by rw [beq_eq_false_iff_ne]; exact hs0
    have t2 : eqa 0 a.wt a.st a.wt = false := decide_eq_false (fun h => hs0 h.1.symm)
    clear hw hl hh hb hs0
    obtain ⟨k0, k1, k2, k3, k4, k5⟩ := LB.all HL.out
    obtain ⟨c0, c1, _, _⟩ := Blk.two HA.out
    obtain ⟨d0, d1, _, _⟩ := Blk.two HX.out
    go_wp2_with fail
    refine (step_to l ⟨0, a.wt⟩ ⟨0, a.wt⟩ 0 v _ HTW.out).mono ?_
    rintro e w3 ⟨rfl, hb3⟩
    have HW3 := Lib.hid (HW.out.trans (hb3.mono HW.out.size))
    obtain ⟨d0', d1', _, _⟩ := Blk.two (AB.below HX.out hb3)
    have lx := Blk.lt (AB.below HX.out hb3)
    clear hb3 k0 k1 k2 k3 k4 k5 c0 c1 d0 d1
    go_wp2_with fail
    refine (works_any _).mono ?_
    rintro e w4 ⟨rfl, hb4⟩
    go_wp2_with fail
    go_ret
    exact ⟨rfl, (HW3.out.alloc HW3.out.size _).trans (hb4.mono (Nat.le_trans HW3.out.size (by simp)))⟩

theorem own : ownKnob Try.prog.godebug = none := by kernel_rfl

set_option maxRecDepth 100000 in
theorem lifted (os : Os) (started : os.Started) (H : Type) (enc : TypeId × Value → H) :
    ReturnsInHanded {} Try.checked os 3 .any (Rows.alarmTellsSpec.pre6 enc Try.prog Try.f3 Rows.alarmTellsRow.domain false) (Rows.alarmTellsSpec.post enc Try.prog Try.f3 false true false false) := by
  refine law_lifted (C := Try.checked) (tb := 4) own started (by kernel_rfl) Try.func3
    (ChangeSpec.witness6 (enc := enc) (C := Try.checked) false ⟨#[], #[.agg #[.bool false, .bool false, .bool false, .int .i64 0, .int .i64 0, .int .i64 0], .agg #[.int .i64 0, .bool false], .int .i64 0], []⟩ 8 (by kernel_rfl) (by kernel_rfl) (by kernel_rfl) (by kernel_rfl))
    rfl (by kernel_rfl) (by kernel_rfl) (by kernel_rfl) Try.underlying4 (fun ds h => ?_) ?_
  · rw [show Try.f3.params = #[23, 25, 3] from Try.params3] at h
    match ds, h with
    | [_, _, _], _ => rfl
  · intro W base args ds before hval hA hlt hsz
    rw [show Try.f3.params = #[23, 25, 3] from Try.params3] at hA hval hsz
    obtain ⟨v0, vs0, d0, ds0, p0, q0, hargs, rfl, rfl, h0, r0⟩ := trodAll_cons hA
    obtain ⟨v1, vs1, d1, ds1, p1, q1, rfl, rfl, rfl, h1, r1⟩ := trodAll_cons r0
    obtain ⟨v2, vs2, d2, ds2, p2, q2, rfl, rfl, rfl, h2, r2⟩ := trodAll_cons r1
    obtain ⟨rfl, rfl, rfl⟩ := trodAll_nil r2
    obtain rfl : args = #[v0, v1, v2] := by cases args; simp_all
    obtain ⟨l, rfl, _, _, _⟩ := open_lim (hval 0 _ v0 rfl rfl) h0
    obtain ⟨a, rfl⟩ := open_alm (hval 1 _ v1 rfl rfl) h1
    obtain ⟨v, rfl, _, _, _⟩ := open_int Try.underlying3 (hval 2 3 v2 rfl rfl) h2
    exact walk l a v W

theorem proved : Rows.AlarmTellsSaid :=
  OpenClaim.holds_of_wide 3 Try.f3 rfl rfl rfl rfl rfl rfl rfl ⟨rfl, rfl, rfl, rfl, rfl⟩ rfl rfl rfl rfl rfl (by kernel_rfl) Try.func3 (by kernel_rfl)
    (of_decide_eq_true (by kernel_rfl)) (by unfold Func.isWrapper; rw [if_neg (of_decide_eq_false (by kernel_rfl))]; exact ⟨rfl, rfl⟩)
    (fun os started H enc _ => lifted os started H enc)
#print axioms proved
end AlarmTells
end Go.Proofs.Ytgkhdoklbbedpaa
