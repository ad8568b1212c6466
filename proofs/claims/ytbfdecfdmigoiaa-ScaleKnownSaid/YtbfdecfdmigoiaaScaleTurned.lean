/-
  What is proved here: the law ScaleTurned returns true for all it is given. Conditions: none.
-/
import Derived.Test.YtbfdecfdmigoiaaScaLaws2
namespace Go.Proofs.Ytbfdecfdmigoiaa
namespace ScaleTurned
open Go.ChangeShapes Go.WideShapes Go.ChangeAt Go.RowKit Go.Deep

set_option maxRecDepth 100000 in
set_option maxHeartbeats 4000000 in
theorem walk (s : Sca) (raw : Int) (w : World) :
    Calls Try.prog 7 #[.agg s.cells, .int .i64 raw] w fun e w' => e = .returned (.bool true) ∧ Below w.heap.size w w' := by
  have HCL := Lib.hid (show s.cells = #[.bool s.wide, .bool s.signed, .bool s.swap, .int .i64 s.mul, .int .i64 s.div, .int .i64 s.add] from rfl)
  rw [HCL.out]
  have HB := Lib.hid (show CB w w.heap.size s (w.alloc (.cells #[.bool s.wide, .bool s.signed, .bool s.swap, .int .i64 s.mul, .int .i64 s.div, .int .i64 s.add] 23)) from ⟨Blk.new _ _ _, by (repeat (first | (with_reducible assumption) | (with_reducible exact Below.refl _ _) | ((with_reducible refine Below.setCell ?_ ?_ _); rotate_left; · (first | omega | (simp; done) | (simp; omega) | (simp at *; omega))) | ((with_reducible refine Below.alloc ?_ ?_ _); rotate_left; · (first | omega | (simp; done) | (simp; omega) | (simp at *; omega))) | (with_reducible refine Below.drew ?_) | (with_reducible refine below_drewN ?_ _) | ((refine Below.trans ?_ (Below.mono (by with_reducible assumption) ?_)); rotate_left; · (first | omega | (simp; done) | (simp; omega) | (simp at *; omega)))))⟩)
  by_cases ho : s.Ok
  rotate_left
  · have HE := Lib.hid (show s.err = 25 from if_neg ho)
    clear ho
    go_enter Try.func7, Try.ntmps7
    obtain ⟨c0, c1, c2, c3, c4, c5, hl⟩ := HB.out.all
    go_wp2_with fail
    refine (check_at s _ 25 HE.out).mono ?_
    rintro e w1 ⟨rfl, hb1⟩
    have HB1 := Lib.hid (HB.out.below hb1)
    clear c0 c1 c2 c3 c4 c5 hl HB hb1
    go_wp2_with fail
    refine (works_any _).mono ?_
    rintro e w3 ⟨rfl, hb3⟩
    have HW := Lib.hid (HB1.out.2.trans (hb3.mono HB1.out.2.size))
    clear hb3
    go_wp2_with fail
    go_ret
    exact ⟨rfl, HW.out⟩
  · have HE := Lib.hid (show s.err = 0 from if_pos ho)
    have HT := Lib.hid (show s.turned.err = 0 from if_pos (Sca.turned_ok ho))
    obtain ⟨⟨v, n⟩, hv⟩ : ∃ p, p = valTo s raw := ⟨_, rfl⟩
    have HV := Lib.hid hv.symm
    have HU := Lib.hid (turned_val ho hv.symm)
    have hvb : -1099511627776 ≤ v ∧ v ≤ 1099511627776 := by
      rcases val_ways hv.symm with ⟨h, _⟩ | ⟨h, _⟩ | ⟨_, _, _, _, h⟩
      · omega
      · omega
      · rw [h]; exact mean_in s raw
    have hm := ho.2.1
    have ha := ho.2.2.2.1
    have e1 : wrap64 (-s.mul) = -s.mul := IntWalk.wrap64_in _ ⟨by omega, by omega⟩
    have e2 : wrap64 (-s.add) = -s.add := IntWalk.wrap64_in _ ⟨by omega, by omega⟩
    have e3 : wrap64 (-v) = -v := IntWalk.wrap64_in _ ⟨by omega, by omega⟩
    clear ho hv
    go_enter Try.func7, Try.ntmps7
    obtain ⟨c0, c1, c2, c3, c4, c5, hl⟩ := HB.out.all
    go_wp2_with fail
    refine (check_at s _ 0 HE.out).mono ?_
    rintro e w1 ⟨rfl, hb1⟩
    have HB1 := Lib.hid (HB.out.below hb1)
    clear c0 c1 c2 c3 c4 c5 hl HB hb1
    obtain ⟨c0, c1, c2, c3, c4, c5, hl⟩ := HB1.out.all
    have hw1 := HB1.out.2.size
    have hlt : w1.heap.size < (w1.alloc (.cells #[.bool s.wide, .bool s.signed, .bool s.swap, .int .i64 s.mul, .int .i64 s.div, .int .i64 s.add] 23)).heap.size := by simp
    go_upto_region 6 with fail
    obtain ⟨wx, hwx⟩ : ∃ wx : World, wx = w1.alloc (.cells #[.bool s.wide, .bool s.signed, .bool s.swap, .int .i64 (-s.mul), .int .i64 s.div, .int .i64 (-s.add)] 23) := ⟨_, rfl⟩
    have hS : CB w w.heap.size s wx := by
      rw [hwx]
      exact ⟨Blk.alloc HB1.out.1 _, HB1.out.2.alloc hw1 _⟩
    have hX : CB w w1.heap.size s.turned wx := by
      rw [hwx]
      exact ⟨Blk.new w1 _ _, HB1.out.2.alloc hw1 _⟩
    rw [← hwx]
    clear hwx hlt hw1 c0 c1 c2 c3 c4 c5 hl
    have HS := Lib.hid hS
    have HX := Lib.hid hX
    clear hS hX HB1
    obtain ⟨c0, c1, c2, c3, c4, c5, hl⟩ := HS.out.all
    go_wp2_with fail
    refine (value_to s raw v n _ HV.out).mono ?_
    rintro e w2 ⟨rfl, hb2⟩
    have HX2 := Lib.hid (HX.out.below hb2)
    clear c0 c1 c2 c3 c4 c5 hl HS HX hb2
    obtain ⟨c0, c1, c2, c3, c4, c5, hl⟩ := HX2.out.all
    go_wp2_with fail
    refine (value_to s.turned raw (-v) n _ HU.out).mono ?_
    rintro e w3 ⟨rfl, hb3⟩
    have HX3 := Lib.hid (HX2.out.below hb3)
    clear c0 c1 c2 c3 c4 c5 hl HX2 hb3
    obtain ⟨c0, c1, c2, c3, c4, c5, hl⟩ := HX3.out.all
    go_wp2_with fail
    refine (check_at s.turned _ 0 HT.out).mono ?_
    rintro e w4 ⟨rfl, hb4⟩
    have HX4 := Lib.hid (HX3.out.below hb4)
    clear c0 c1 c2 c3 c4 c5 hl HX3 hb4
    have HW4 := Lib.hid HX4.out.2
    go_wp2_with fail
    refine (works_any _).mono ?_
    rintro e w5 ⟨rfl, hb5⟩
    have HW := Lib.hid (HW4.out.trans (hb5.mono HW4.out.size))
    clear hb5
    go_wp2_with fail
    go_ret
    exact ⟨rfl, HW.out⟩

theorem own : ownKnob Try.prog.godebug = none := by kernel_rfl

set_option maxRecDepth 100000 in
theorem lifted (os : Os) (started : os.Started) (H : Type) (enc : TypeId × Value → H) :
    ReturnsInHanded {} Try.checked os 7 .any (Rows.scaleTurnedSpec.pre6 enc Try.prog Try.f7 Rows.scaleTurnedRow.domain false) (Rows.scaleTurnedSpec.post enc Try.prog Try.f7 false true false false) := by
  refine law_lifted (C := Try.checked) (tb := 4) own started (by kernel_rfl) Try.func7
    (ChangeSpec.witness6 (enc := enc) (C := Try.checked) false ⟨#[], #[.agg #[.bool false, .bool false, .bool false, .int .i64 0, .int .i64 0, .int .i64 0], .int .i64 0], []⟩ 8 (by kernel_rfl) (by kernel_rfl) (by kernel_rfl) (by kernel_rfl))
    rfl (by kernel_rfl) (by kernel_rfl) (by kernel_rfl) Try.underlying4 (fun ds h => ?_) ?_
  · rw [show Try.f7.params = #[23, 3] from Try.params7] at h
    match ds, h with
    | [_, _], _ => rfl
  · intro W base args ds before hval hA hlt hsz
    rw [show Try.f7.params = #[23, 3] from Try.params7] at hA hval hsz
    obtain ⟨v0, vs0, d0, ds0, p0, q0, hargs, rfl, rfl, h0, r0⟩ := trodAll_cons hA
    obtain ⟨v1, vs1, d1, ds1, p1, q1, rfl, rfl, rfl, h1, r1⟩ := trodAll_cons r0
    obtain ⟨rfl, rfl, rfl⟩ := trodAll_nil r1
    obtain rfl : args = #[v0, v1] := by cases args; simp_all
    obtain ⟨s, rfl, _, _, _⟩ := open_sca (hval 0 _ v0 rfl rfl) h0
    obtain ⟨v, rfl, _, _, _⟩ := open_int Try.underlying3 (hval 1 3 v1 rfl rfl) h1
    exact walk s v W

theorem proved : Rows.ScaleTurnedSaid :=
  OpenClaim.holds_of_wide 7 Try.f7 rfl rfl rfl rfl rfl rfl rfl ⟨rfl, rfl, rfl, rfl, rfl⟩ rfl rfl rfl rfl rfl (by kernel_rfl) Try.func7 (by kernel_rfl)
    (of_decide_eq_true (by kernel_rfl)) (by unfold Func.isWrapper; rw [if_neg (of_decide_eq_false (by kernel_rfl))]; exact ⟨rfl, rfl⟩)
    (fun os started H enc _ => lifted os started H enc)
#print axioms proved
end ScaleTurned
end Go.Proofs.Ytbfdecfdmigoiaa
