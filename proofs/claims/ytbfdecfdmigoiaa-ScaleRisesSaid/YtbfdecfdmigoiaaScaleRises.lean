/-
  What is proved here: the law ScaleRises returns true for all it is given. Conditions: none.
-/
import Derived.Test.YtbfdecfdmigoiaaScaLaws2
namespace Go.Proofs.Ytbfdecfdmigoiaa
namespace ScaleRises
open Go.ChangeShapes Go.WideShapes Go.ChangeAt Go.RowKit Go.Deep

set_option maxRecDepth 100000 in
set_option maxHeartbeats 4000000 in
theorem walk (s : Sca) (a b : Int) (w : World) :
    Calls Try.prog 6 #[.agg s.cells, .int .i64 a, .int .i64 b] w fun e w' => e = .returned (.bool true) ∧ Below w.heap.size w w' := by
  have HCL := Lib.hid (show s.cells = #[.bool s.wide, .bool s.signed, .bool s.swap, .int .i64 s.mul, .int .i64 s.div, .int .i64 s.add] from rfl)
  rw [HCL.out]
  have HB := Lib.hid (show CB w w.heap.size s (w.alloc (.cells #[.bool s.wide, .bool s.signed, .bool s.swap, .int .i64 s.mul, .int .i64 s.div, .int .i64 s.add] 23)) from ⟨Blk.new _ _ _, by (repeat (first | (with_reducible assumption) | (with_reducible exact Below.refl _ _) | ((with_reducible refine Below.setCell ?_ ?_ _); rotate_left; · (first | omega | (simp; done) | (simp; omega) | (simp at *; omega))) | ((with_reducible refine Below.alloc ?_ ?_ _); rotate_left; · (first | omega | (simp; done) | (simp; omega) | (simp at *; omega))) | (with_reducible refine Below.drew ?_) | (with_reducible refine below_drewN ?_ _) | ((refine Below.trans ?_ (Below.mono (by with_reducible assumption) ?_)); rotate_left; · (first | omega | (simp; done) | (simp; omega) | (simp at *; omega)))))⟩)
  obtain ⟨⟨v, n⟩, hv⟩ : ∃ p, p = valTo s a := ⟨_, rfl⟩
  have HV := Lib.hid hv.symm
  have hva := val_ways hv.symm
  clear hv
  by_cases hab : a = b
  · subst hab
    have tb : (a == a) = true := by simp
    have tc : (a != a) = false := by simp
    obtain ⟨c, hc⟩ : ∃ c, c = (n != 0) := ⟨_, rfl⟩
    have hc' := hc.symm
    clear hc
    cases c
    all_goals
      clear hva
      go_enter Try.func6, Try.ntmps6
      obtain ⟨c0, c1, c2, c3, c4, c5, hl⟩ := HB.out.all
      go_wp2_with fail
      refine (value_to s a v n _ HV.out).mono ?_
      rintro e w1 ⟨rfl, hb1⟩
      have HB1 := Lib.hid (HB.out.below hb1)
      clear c0 c1 c2 c3 c4 c5 hl HB hb1
      obtain ⟨c0, c1, c2, c3, c4, c5, hl⟩ := HB1.out.all
      go_wp2_with fail
      refine (value_to s a v n _ HV.out).mono ?_
      rintro e w2 ⟨rfl, hb2⟩
      have HB2 := Lib.hid (HB1.out.below hb2)
      clear c0 c1 c2 c3 c4 c5 hl HB1 hb2
      go_wp2_with fail
      refine (works_any _).mono ?_
      rintro e w3 ⟨rfl, hb3⟩
      have HW := Lib.hid (HB2.out.2.trans (hb3.mono HB2.out.2.size))
      clear hb3
      go_wp2_with fail
      go_ret
      exact ⟨rfl, HW.out⟩
  · obtain ⟨⟨u, m⟩, hu⟩ : ∃ p, p = valTo s b := ⟨_, rfl⟩
    have HU := Lib.hid hu.symm
    have hub := val_ways hu.symm
    clear hu
    have tb : (a == b) = false := by rw [beq_eq_false_iff_ne]; exact hab
    have tc : (a != b) = true := by simp [hab]
    have hcase : ((n != 0) = true ∨ ((n != 0) = false ∧ (m != 0) = true)) ∨ (n = 0 ∧ m = 0 ∧ s.Ok ∧ v = s.mean a ∧ u = s.mean b) := by
      rcases hva with ⟨_, h⟩ | ⟨_, h⟩ | ⟨h0, h1, h2, h3, h4⟩
      · exact .inl (.inl (by simp [h]))
      · exact .inl (.inl (by simp [h]))
      · rcases hub with ⟨_, h⟩ | ⟨_, h⟩ | ⟨k0, k1, k2, k3, k4⟩
        · exact .inl (.inr ⟨by simp [h0], by simp [h]⟩)
        · exact .inl (.inr ⟨by simp [h0], by simp [h]⟩)
        · exact .inr ⟨h0, k0, h1, h4, k4⟩
    clear hva hub
    rcases hcase with hc | ⟨rfl, rfl, ho, hvm, hum⟩
    · rcases hc with hn | ⟨hn, hm⟩
      all_goals
        clear hab
        go_enter Try.func6, Try.ntmps6
        obtain ⟨c0, c1, c2, c3, c4, c5, hl⟩ := HB.out.all
        go_wp2_with fail
        refine (value_to s a v n _ HV.out).mono ?_
        rintro e w1 ⟨rfl, hb1⟩
        have HB1 := Lib.hid (HB.out.below hb1)
        clear c0 c1 c2 c3 c4 c5 hl HB hb1
        obtain ⟨c0, c1, c2, c3, c4, c5, hl⟩ := HB1.out.all
        go_wp2_with fail
        refine (value_to s b u m _ HU.out).mono ?_
        rintro e w2 ⟨rfl, hb2⟩
        have HB2 := Lib.hid (HB1.out.below hb2)
        clear c0 c1 c2 c3 c4 c5 hl HB1 hb2
        go_wp2_with fail
        refine (works_any _).mono ?_
        rintro e w3 ⟨rfl, hb3⟩
        have HW := Lib.hid (HB2.out.2.trans (hb3.mono HB2.out.2.size))
        clear hb3
        go_wp2_with fail
        go_ret
        exact ⟨rfl, HW.out⟩
    · have hm0 := ho.1
      have hsel : (decide (a < b) = true ∧ decide (0 < s.mul) = true ∧ decide (v ≤ u) = true) ∨ (decide (a < b) = false ∧ decide (0 < s.mul) = false ∧ decide (v ≤ u) = true) ∨ (decide (a < b) = true ∧ decide (0 < s.mul) = false ∧ decide (u ≤ v) = true) ∨ (decide (a < b) = false ∧ decide (0 < s.mul) = true ∧ decide (u ≤ v) = true) := by
        simp only [decide_eq_true_eq, decide_eq_false_iff_not]
        subst hvm hum
        by_cases h1 : a < b
        · by_cases h2 : 0 < s.mul
          · exact .inl ⟨h1, h2, mean_up ho h2 (by omega)⟩
          · exact .inr (.inr (.inl ⟨h1, h2, mean_down ho (by omega) (by omega)⟩))
        · by_cases h2 : 0 < s.mul
          · exact .inr (.inr (.inr ⟨h1, h2, mean_up ho h2 (by omega)⟩))
          · exact .inr (.inl ⟨h1, h2, mean_down ho (by omega) (by omega)⟩)
      clear ho hvm hum hm0 hab
      rcases hsel with ⟨k1, k2, k3⟩ | ⟨k1, k2, k3⟩ | ⟨k1, k2, k3⟩ | ⟨k1, k2, k3⟩
      all_goals
        go_enter Try.func6, Try.ntmps6
        obtain ⟨c0, c1, c2, c3, c4, c5, hl⟩ := HB.out.all
        go_wp2_with fail
        refine (value_to s a v 0 _ HV.out).mono ?_
        rintro e w1 ⟨rfl, hb1⟩
        have HB1 := Lib.hid (HB.out.below hb1)
        clear c0 c1 c2 c3 c4 c5 hl HB hb1
        obtain ⟨c0, c1, c2, c3, c4, c5, hl⟩ := HB1.out.all
        go_wp2_with fail
        refine (value_to s b u 0 _ HU.out).mono ?_
        rintro e w2 ⟨rfl, hb2⟩
        have HB2 := Lib.hid (HB1.out.below hb2)
        clear c0 c1 c2 c3 c4 c5 hl HB1 hb2
        obtain ⟨c0, c1, c2, c3, c4, c5, hl⟩ := HB2.out.all
        have HW1 := Lib.hid HB2.out.2
        go_wp2_with fail
        refine (works_any _).mono ?_
        rintro e w3 ⟨rfl, hb3⟩
        have HW := Lib.hid (HW1.out.trans (hb3.mono HW1.out.size))
        clear hb3
        go_wp2_with fail
        go_ret
        exact ⟨rfl, HW.out⟩

theorem own : ownKnob Try.prog.godebug = none := by kernel_rfl

set_option maxRecDepth 100000 in
theorem lifted (os : Os) (started : os.Started) (H : Type) (enc : TypeId × Value → H) :
    ReturnsInHanded {} Try.checked os 6 .any (Rows.scaleRisesSpec.pre6 enc Try.prog Try.f6 Rows.scaleRisesRow.domain false) (Rows.scaleRisesSpec.post enc Try.prog Try.f6 false true false false) := by
  refine law_lifted (C := Try.checked) (tb := 4) own started (by kernel_rfl) Try.func6
    (ChangeSpec.witness6 (enc := enc) (C := Try.checked) false ⟨#[], #[.agg #[.bool false, .bool false, .bool false, .int .i64 0, .int .i64 0, .int .i64 0], .int .i64 0, .int .i64 0], []⟩ 8 (by kernel_rfl) (by kernel_rfl) (by kernel_rfl) (by kernel_rfl))
    rfl (by kernel_rfl) (by kernel_rfl) (by kernel_rfl) Try.underlying4 (fun ds h => ?_) ?_
  · rw [show Try.f6.params = #[23, 3, 3] from Try.params6] at h
    match ds, h with
    | [_, _, _], _ => rfl
  · intro W base args ds before hval hA hlt hsz
    rw [show Try.f6.params = #[23, 3, 3] from Try.params6] at hA hval hsz
    obtain ⟨v0, vs0, d0, ds0, p0, q0, hargs, rfl, rfl, h0, r0⟩ := trodAll_cons hA
    obtain ⟨v1, vs1, d1, ds1, p1, q1, rfl, rfl, rfl, h1, r1⟩ := trodAll_cons r0
    obtain ⟨v2, vs2, d2, ds2, p2, q2, rfl, rfl, rfl, h2, r2⟩ := trodAll_cons r1
    obtain ⟨rfl, rfl, rfl⟩ := trodAll_nil r2
    obtain rfl : args = #[v0, v1, v2] := by cases args; simp_all
    obtain ⟨s, rfl, _, _, _⟩ := open_sca (hval 0 _ v0 rfl rfl) h0
    obtain ⟨a, rfl, _, _, _⟩ := open_int Try.underlying3 (hval 1 3 v1 rfl rfl) h1
    obtain ⟨b, rfl, _, _, _⟩ := open_int Try.underlying3 (hval 2 3 v2 rfl rfl) h2
    exact walk s a b W

theorem proved : Rows.ScaleRisesSaid :=
  OpenClaim.holds_of_wide 6 Try.f6 rfl rfl rfl rfl rfl rfl rfl ⟨rfl, rfl, rfl, rfl, rfl⟩ rfl rfl rfl rfl rfl (by kernel_rfl) Try.func6 (by kernel_rfl)
    (of_decide_eq_true (by kernel_rfl)) (by unfold Func.isWrapper; rw [if_neg (of_decide_eq_false (by kernel_rfl))]; exact ⟨rfl, rfl⟩)
    (fun os started H enc _ => lifted os started H enc)
#print axioms proved
end ScaleRises
end Go.Proofs.Ytbfdecfdmigoiaa
