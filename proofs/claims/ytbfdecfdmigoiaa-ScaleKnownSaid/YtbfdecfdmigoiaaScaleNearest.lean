/-
  What is proved here: the law ScaleNearest returns true for all it is given. Conditions: none.
-/
import Derived.Test.YtbfdecfdmigoiaaScaLaws2
import Derived.Deep.DeepCutAuto
namespace Go.Proofs.Ytbfdecfdmigoiaa
namespace ScaleNearest
open Go.ChangeShapes Go.WideShapes Go.ChangeAt Go.RowKit Go.Deep

set_option maxRecDepth 100000 in
set_option maxHeartbeats 4000000 in
theorem walk (s : Sca) (raw : Int) (w : World) :
    Calls Try.prog 5 #[.agg s.cells, .int .i64 raw] w fun e w' => e = .returned (.bool true) ∧ Below w.heap.size w w' := by
  have HCL := Lib.hid (show s.cells = #[.bool s.wide, .bool s.signed, .bool s.swap, .int .i64 s.mul, .int .i64 s.div, .int .i64 s.add] from rfl)
  rw [HCL.out]
  have HB := Lib.hid (show CB w w.heap.size s (w.alloc (.cells #[.bool s.wide, .bool s.signed, .bool s.swap, .int .i64 s.mul, .int .i64 s.div, .int .i64 s.add] 23)) from ⟨Blk.new _ _ _, by (repeat (first | (with_reducible assumption) | (with_reducible exact Below.refl _ _) | ((with_reducible refine Below.setCell ?_ ?_ _); rotate_left; · (first | omega | (simp; done) | (simp; omega) | (simp at *; omega))) | ((with_reducible refine Below.alloc ?_ ?_ _); rotate_left; · (first | omega | (simp; done) | (simp; omega) | (simp at *; omega))) | (with_reducible refine Below.drew ?_) | (with_reducible refine below_drewN ?_ _) | ((refine Below.trans ?_ (Below.mono (by with_reducible assumption) ?_)); rotate_left; · (first | omega | (simp; done) | (simp; omega) | (simp at *; omega)))))⟩)
  obtain ⟨⟨v, n⟩, hv⟩ : ∃ p, p = valTo s raw := ⟨_, rfl⟩
  have HV := Lib.hid hv.symm
  have hways := val_ways hv.symm
  clear hv
  have hcase : ((v = 0 ∧ n = 25) ∨ (v = 0 ∧ n = 3)) ∨ ((n = 0 ∧ v = -1099511627776) ∨ (n = 0 ∧ v = 1099511627776)) ∨ (n = 0 ∧ s.Ok ∧ -2147483648 ≤ raw ∧ raw ≤ 4294967295 ∧ v = s.mean raw ∧ ¬ v = -1099511627776 ∧ ¬ v = 1099511627776) := by
    rcases hways with h | h | ⟨h0, h1, h2, h3, h4⟩
    · exact .inl (.inl h)
    · exact .inl (.inr h)
    · by_cases k1 : v = -1099511627776
      · exact .inr (.inl (.inl ⟨h0, k1⟩))
      · by_cases k2 : v = 1099511627776
        · exact .inr (.inl (.inr ⟨h0, k2⟩))
        · exact .inr (.inr ⟨h0, h1, h2, h3, h4, k1, k2⟩)
  clear hways
  rcases hcase with hc | hc | ⟨rfl, ho, hr1, hr2, hvm, k1, k2⟩
  · rcases hc with ⟨rfl, rfl⟩ | ⟨rfl, rfl⟩
    all_goals
      go_enter Try.func5, Try.ntmps5
      obtain ⟨c0, c1, c2, c3, c4, c5, hl⟩ := HB.out.all
      go_wp2_with fail
      refine (value_to s raw _ _ _ HV.out).mono ?_
      rintro e w1 ⟨rfl, hb1⟩
      have HB1 := Lib.hid (HB.out.below hb1)
      clear c0 c1 c2 c3 c4 c5 hl HB hb1
      go_wp2_with fail
      refine (works_any _).mono ?_
      rintro e w3 ⟨rfl, hb3⟩
      have HW := Lib.hid (HB1.out.2.trans (hb3.mono HB1.out.2.size))
      clear hb3
      go_wp2_with fail
      go_ret
      exact ⟨rfl, HW.out⟩
  · rcases hc with ⟨rfl, rfl⟩ | ⟨rfl, rfl⟩
    all_goals
      go_enter Try.func5, Try.ntmps5
      obtain ⟨c0, c1, c2, c3, c4, c5, hl⟩ := HB.out.all
      go_wp2_with fail
      refine (value_to s raw _ _ _ HV.out).mono ?_
      rintro e w1 ⟨rfl, hb1⟩
      have HB1 := Lib.hid (HB.out.below hb1)
      clear c0 c1 c2 c3 c4 c5 hl HB hb1
      go_wp2_with fail
      refine (works_any _).mono ?_
      rintro e w3 ⟨rfl, hb3⟩
      have HW := Lib.hid (HB1.out.2.trans (hb3.mono HB1.out.2.size))
      clear hb3
      go_wp2_with fail
      go_ret
      exact ⟨rfl, HW.out⟩
  · have hin := mean_in s raw
    obtain ⟨m1, m2, m3, m4⟩ := mean_near (raw := raw) ho (by rw [← hvm]; exact k1) (by rw [← hvm]; exact k2)
    have hm := mul_bound (a := raw) (b := s.mul) (by omega) (by omega) (by have := ho.2.1; omega) (by have := ho.2.1; omega)
    have hd := ho.2.2.1
    have ha := ho.2.2.2.1
    rw [← hvm] at hin m1 m2 m3 m4
    have HVM := Lib.hid hvm
    have hdv : s.div ≤ 1000000 := hd.2
    obtain ⟨b1, b2⟩ := hm
    have b3 : -4294967297000000 ≤ (v - s.add) * s.div := by omega
    have b4 : (v - s.add) * s.div ≤ 4294967297000000 := by omega
    have t1 : decide (v < -1099511627776) = false := decide_eq_false (by omega)
    have t2 : decide (1099511627776 < v) = false := decide_eq_false (by omega)
    have t3 : decide (s.div < 2 * ((v - s.add) * s.div - raw * s.mul)) = false := decide_eq_false (by omega)
    have t4 : decide (2 * ((v - s.add) * s.div - raw * s.mul) < -s.div) = false := decide_eq_false (by omega)
    have t5 : (2 * ((v - s.add) * s.div - raw * s.mul) == s.div) = false ∨ decide (raw * s.mul < 0) = false := by
      by_cases hz : raw * s.mul < 0
      · left; rw [beq_eq_false_iff_ne]; have := m3 hz; omega
      · right; exact decide_eq_false hz
    have t6 : (2 * ((v - s.add) * s.div - raw * s.mul) == -s.div) = false ∨ decide (0 < raw * s.mul) = false := by
      by_cases hz : 0 < raw * s.mul
      · left; rw [beq_eq_false_iff_ne]; have := m4 hz; omega
      · right; exact decide_eq_false hz
    clear ho hvm m3 m4
    go_enter Try.func5, Try.ntmps5
    obtain ⟨c0, c1, c2, c3, c4, c5, hl⟩ := HB.out.all
    go_wp2_with fail
    refine (value_to s raw v 0 _ HV.out).mono ?_
    rintro e w1 ⟨rfl, hb1⟩
    have HB1 := Lib.hid (HB.out.below hb1)
    clear c0 c1 c2 c3 c4 c5 hl HB hb1
    obtain ⟨c0, c1, c2, c3, c4, c5, hl⟩ := HB1.out.all
    have HW1 := Lib.hid HB1.out.2
    go_upto_region 10 with fail
    go_cut [7, 8, 80] (fun _ _ s80 wx => s80 = .bool false ∧ Below w.heap.size w wx)
    case first =>
      rcases t5 with t5 | t5
      all_goals
        rcases t6 with t6 | t6
        all_goals
          go_wp2_with fail
          all_goals
            go_meet
            exact ⟨rfl, HW1.out⟩
    case rest =>
      obtain ⟨rfl, hbel⟩ := hcut
      clear hin hd ha hdv b1 b2 b3 b4 m1 m2 t1 t2 t3 t4 t5 t6 k1 k2 hr1 hr2 c0 c1 c2 c3 c4 c5 hl
      go_wp2_with fail
      refine (works_any _).mono ?_
      rintro e w3 ⟨rfl, hb3⟩
      have HW := Lib.hid (hbel.trans (hb3.mono hbel.size))
      clear hb3
      go_wp2_with fail
      go_ret
      exact ⟨rfl, HW.out⟩

theorem own : ownKnob Try.prog.godebug = none := by kernel_rfl

set_option maxRecDepth 100000 in
theorem lifted (os : Os) (started : os.Started) (H : Type) (enc : TypeId × Value → H) :
    ReturnsInHanded {} Try.checked os 5 .any (Rows.scaleNearestSpec.pre6 enc Try.prog Try.f5 Rows.scaleNearestRow.domain false) (Rows.scaleNearestSpec.post enc Try.prog Try.f5 false true false false) := by
  refine law_lifted (C := Try.checked) (tb := 4) own started (by kernel_rfl) Try.func5
    (ChangeSpec.witness6 (enc := enc) (C := Try.checked) false ⟨#[], #[.agg #[.bool false, .bool false, .bool false, .int .i64 0, .int .i64 0, .int .i64 0], .int .i64 0], []⟩ 8 (by kernel_rfl) (by kernel_rfl) (by kernel_rfl) (by kernel_rfl))
    rfl (by kernel_rfl) (by kernel_rfl) (by kernel_rfl) Try.underlying4 (fun ds h => ?_) ?_
  · rw [show Try.f5.params = #[23, 3] from Try.params5] at h
    match ds, h with
    | [_, _], _ => rfl
  · intro W base args ds before hval hA hlt hsz
    rw [show Try.f5.params = #[23, 3] from Try.params5] at hA hval hsz
    obtain ⟨v0, vs0, d0, ds0, p0, q0, hargs, rfl, rfl, h0, r0⟩ := trodAll_cons hA
    obtain ⟨v1, vs1, d1, ds1, p1, q1, rfl, rfl, rfl, h1, r1⟩ := trodAll_cons r0
    obtain ⟨rfl, rfl, rfl⟩ := trodAll_nil r1
    obtain rfl : args = #[v0, v1] := by cases args; simp_all
    obtain ⟨s, rfl, _, _, _⟩ := open_sca (hval 0 _ v0 rfl rfl) h0
    obtain ⟨v, rfl, _, _, _⟩ := open_int Try.underlying3 (hval 1 3 v1 rfl rfl) h1
    exact walk s v W

theorem proved : Rows.ScaleNearestSaid :=
  OpenClaim.holds_of_wide 5 Try.f5 rfl rfl rfl rfl rfl rfl rfl ⟨rfl, rfl, rfl, rfl, rfl⟩ rfl rfl rfl rfl rfl (by kernel_rfl) Try.func5 (by kernel_rfl)
    (of_decide_eq_true (by kernel_rfl)) (by unfold Func.isWrapper; rw [if_neg (of_decide_eq_false (by kernel_rfl))]; exact ⟨rfl, rfl⟩)
    (fun os started H enc _ => lifted os started H enc)
#print axioms proved
end ScaleNearest
end Go.Proofs.Ytbfdecfdmigoiaa
