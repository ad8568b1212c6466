/-
  What is proved here: what Value of package scale's reference answers (chapter 6). Conditions: none.
-/
import Derived.Test.YtbfdecfdmigoiaaScaValue
namespace Go.Proofs.Ytbfdecfdmigoiaa
open Go.RowKit Go.Deep

theorem rcheck_at (s : Sca) (w : World) (n : Int) (h : s.err = n) : Calls Try.prog 16 #[.agg #[.bool s.wide, .bool s.signed, .bool s.swap, .int .i64 s.mul, .int .i64 s.div, .int .i64 s.add]] w fun e w' => e = .returned (.int .i64 n) ∧ Below w.heap.size w w' := by
  subst h
  exact rcheck_any s w

set_option maxHeartbeats 1000000 in
theorem rvalue_any (s : Sca) (raw : Int) (w : World) :
    Calls Try.prog 19 #[.agg s.cells, .int .i64 raw] w (ValBack s raw w) := by
  have HCL := Lib.hid (show s.cells = #[.bool s.wide, .bool s.signed, .bool s.swap, .int .i64 s.mul, .int .i64 s.div, .int .i64 s.add] from rfl)
  rw [HCL.out]
  have HB := Lib.hid (show CB w w.heap.size s (w.alloc (.cells #[.bool s.wide, .bool s.signed, .bool s.swap, .int .i64 s.mul, .int .i64 s.div, .int .i64 s.add] 23)) from ⟨Blk.new _ _ _, by (repeat (first | (with_reducible assumption) | (with_reducible exact Below.refl _ _) | ((with_reducible refine Below.setCell ?_ ?_ _); rotate_left; · (first | omega | (simp; done) | (simp; omega) | (simp at *; omega))) | ((with_reducible refine Below.alloc ?_ ?_ _); rotate_left; · (first | omega | (simp; done) | (simp; omega) | (simp at *; omega))) | (with_reducible refine Below.drew ?_) | (with_reducible refine below_drewN ?_ _) | ((refine Below.trans ?_ (Below.mono (by with_reducible assumption) ?_)); rotate_left; · (first | omega | (simp; done) | (simp; omega) | (simp at *; omega)))))⟩)
  by_cases ho : s.Ok
  rotate_left
  · have HE := Lib.hid (show s.err = 25 from if_neg ho)
    have HV := Lib.hid (show valTo s raw = (0, 25) from if_pos ho)
    unfold ValBack
    rw [HV.out]
    clear ho
    go_enter Try.func19, Try.ntmps19
    obtain ⟨c0, c1, c2, c3, c4, c5, hl⟩ := HB.out.all
    go_wp2_with fail
    refine (rcheck_at s _ 25 HE.out).mono ?_
    rintro e w1 ⟨rfl, hb1⟩
    go_wp2_with fail
    refine bodyPost_ret (v := .tuple #[.int .i64 0, .int .i64 25]) ?_ rfl ⟨rfl, by (repeat (first | (with_reducible assumption) | (with_reducible exact Below.refl _ _) | ((with_reducible refine Below.setCell ?_ ?_ _); rotate_left; · (first | omega | (simp; done) | (simp; omega) | (simp at *; omega))) | ((with_reducible refine Below.alloc ?_ ?_ _); rotate_left; · (first | omega | (simp; done) | (simp; omega) | (simp at *; omega))) | (with_reducible refine Below.drew ?_) | (with_reducible refine below_drewN ?_ _) | ((refine Below.trans ?_ (Below.mono (by with_reducible assumption) ?_)); rotate_left; · (first | omega | (simp; done) | (simp; omega) | (simp at *; omega)))))⟩
    simp [results, Try.results19, go_sem]
  · have HE := Lib.hid (show s.err = 0 from if_pos ho)
    have HO := Lib.hid ho
    by_cases hr : raw < -2147483648 ∨ 4294967295 < raw
    · have HV := Lib.hid (show valTo s raw = (0, 3) by unfold valTo; rw [if_neg (by simp [ho]), if_pos hr])
      unfold ValBack
      rw [HV.out]
      clear ho
      rcases (show raw < -2147483648 ∨ (¬ raw < -2147483648 ∧ 4294967295 < raw) by omega) with h1 | ⟨h1, h2⟩
      all_goals
        clear hr
        go_enter Try.func19, Try.ntmps19
        obtain ⟨c0, c1, c2, c3, c4, c5, hl⟩ := HB.out.all
        go_wp2_with fail
        refine (rcheck_at s _ 0 HE.out).mono ?_
        rintro e w1 ⟨rfl, hb1⟩
        go_wp2_with fail
        refine bodyPost_ret (v := .tuple #[.int .i64 0, .int .i64 3]) ?_ rfl ⟨rfl, by (repeat (first | (with_reducible assumption) | (with_reducible exact Below.refl _ _) | ((with_reducible refine Below.setCell ?_ ?_ _); rotate_left; · (first | omega | (simp; done) | (simp; omega) | (simp at *; omega))) | ((with_reducible refine Below.alloc ?_ ?_ _); rotate_left; · (first | omega | (simp; done) | (simp; omega) | (simp at *; omega))) | (with_reducible refine Below.drew ?_) | (with_reducible refine below_drewN ?_ _) | ((refine Below.trans ?_ (Below.mono (by with_reducible assumption) ?_)); rotate_left; · (first | omega | (simp; done) | (simp; omega) | (simp at *; omega)))))⟩
        simp [results, Try.results19, go_sem]
    · have HV := Lib.hid (show valTo s raw = (s.mean raw, 0) by unfold valTo; rw [if_neg (by simp [ho]), if_neg hr])
      unfold ValBack
      rw [HV.out]
      have r1 : ¬ raw < -2147483648 := by omega
      have r2 : ¬ 4294967295 < raw := by omega
      have hm := mul_bound (a := raw) (b := s.mul) (by omega) (by omega) (by have := ho.2.1; omega) (by have := ho.2.1; omega)
      have hd := ho.2.2.1
      have ha := ho.2.2.2.1
      have hnb := near_bound (n := raw * s.mul) (d := s.div) hd.1 hd.2 hm.1 hm.2
      have hnr := near_ref (n := raw * s.mul) (d := s.div) (by omega)
      have HNR := Lib.hid hnr
      clear ho hr hnr
      obtain ⟨v, hv⟩ : ∃ v, v = near (raw * s.mul) s.div + s.add := ⟨_, rfl⟩
      have HM := Lib.hid (show s.mean raw = clip v (-1099511627776) 1099511627776 by unfold Sca.mean; rw [← hv])
      have HVV := Lib.hid hv
      go_enter Try.func19, Try.ntmps19
      obtain ⟨c0, c1, c2, c3, c4, c5, hl⟩ := HB.out.all
      clear hv
      go_wp2_with fail
      refine (rcheck_at s _ 0 HE.out).mono ?_
      rintro e w1 ⟨rfl, hb1⟩
      have HB2 := Lib.hid (show CB w w.heap.size s w1 from ⟨Blk.below HB.out.1 hb1 HB.out.1.lt, HB.out.2.trans (hb1.mono (by simp))⟩)
      clear c0 c1 c2 c3 c4 c5 hl hb1 HB
      go_upto_region 5 with fail
      go_cut [6] (fun s6 wx => s6 = .int .i64 v ∧ Below w.heap.size w wx)
      case first =>
        obtain ⟨c0, c1, c2, c3, c4, c5, hl⟩ := HB2.out.all
        have hbel := HB2.out.2
        have e1 : wrap64 (raw * s.mul) = raw * s.mul := IntWalk.wrap64_in _ ⟨by omega, by omega⟩
        have e2 : wrap64 (near (raw * s.mul) s.div + s.add) = near (raw * s.mul) s.div + s.add := IntWalk.wrap64_in _ ⟨by omega, by omega⟩
        have HN := Lib.hid (fun w0 => (rnearest_any (raw * s.mul) s.div w0 (by omega) (by omega) hd.1 hd.2).mono (R' := fun e w' => e = .returned (.int .i64 (near (raw * s.mul) s.div)) ∧ w' = w0) fun _ _ h => ⟨by rw [HNR.out]; exact h.1, h.2.symm⟩)
        go_quiet ((go_at_call 28; exact Calls.quiet_of_same (HN.out _)))
        go_wp2_with fail
        go_meet
        exact ⟨by rw [HVV.out], by (repeat (first | (with_reducible assumption) | (with_reducible exact Below.refl _ _) | ((with_reducible refine Below.setCell ?_ ?_ _); rotate_left; · (first | omega | (simp; done) | (simp; omega) | (simp at *; omega))) | ((with_reducible refine Below.alloc ?_ ?_ _); rotate_left; · (first | omega | (simp; done) | (simp; omega) | (simp at *; omega))) | (with_reducible refine Below.drew ?_) | (with_reducible refine below_drewN ?_ _) | ((refine Below.trans ?_ (Below.mono (by with_reducible assumption) ?_)); rotate_left; · (first | omega | (simp; done) | (simp; omega) | (simp at *; omega)))))⟩
      case rest =>
        obtain ⟨rfl, hbel⟩ := hcut
        by_cases k1 : v < -1099511627776
        · have HF := Lib.hid (show s.mean raw = -1099511627776 by rw [HM.out]; unfold clip; omega)
          go_wp2_with fail
          refine bodyPost_ret (v := .tuple #[.int .i64 (-1099511627776), .int .i64 0]) ?_ rfl ⟨by rw [HF.out], by (repeat (first | (with_reducible assumption) | (with_reducible exact Below.refl _ _) | ((with_reducible refine Below.setCell ?_ ?_ _); rotate_left; · (first | omega | (simp; done) | (simp; omega) | (simp at *; omega))) | ((with_reducible refine Below.alloc ?_ ?_ _); rotate_left; · (first | omega | (simp; done) | (simp; omega) | (simp at *; omega))) | (with_reducible refine Below.drew ?_) | (with_reducible refine below_drewN ?_ _) | ((refine Below.trans ?_ (Below.mono (by with_reducible assumption) ?_)); rotate_left; · (first | omega | (simp; done) | (simp; omega) | (simp at *; omega)))))⟩
          simp [results, Try.results19, go_sem]
        · by_cases k2 : 1099511627776 < v
          · have HF := Lib.hid (show s.mean raw = 1099511627776 by rw [HM.out]; unfold clip; omega)
            go_wp2_with fail
            refine bodyPost_ret (v := .tuple #[.int .i64 1099511627776, .int .i64 0]) ?_ rfl ⟨by rw [HF.out], by (repeat (first | (with_reducible assumption) | (with_reducible exact Below.refl _ _) | ((with_reducible refine Below.setCell ?_ ?_ _); rotate_left; · (first | omega | (simp; done) | (simp; omega) | (simp at *; omega))) | ((with_reducible refine Below.alloc ?_ ?_ _); rotate_left; · (first | omega | (simp; done) | (simp; omega) | (simp at *; omega))) | (with_reducible refine Below.drew ?_) | (with_reducible refine below_drewN ?_ _) | ((refine Below.trans ?_ (Below.mono (by with_reducible assumption) ?_)); rotate_left; · (first | omega | (simp; done) | (simp; omega) | (simp at *; omega)))))⟩
            simp [results, Try.results19, go_sem]
          · have HF := Lib.hid (show s.mean raw = v by rw [HM.out]; unfold clip; omega)
            go_wp2_with fail
            refine bodyPost_ret (v := .tuple #[.int .i64 v, .int .i64 0]) ?_ rfl ⟨by rw [HF.out], by (repeat (first | (with_reducible assumption) | (with_reducible exact Below.refl _ _) | ((with_reducible refine Below.setCell ?_ ?_ _); rotate_left; · (first | omega | (simp; done) | (simp; omega) | (simp at *; omega))) | ((with_reducible refine Below.alloc ?_ ?_ _); rotate_left; · (first | omega | (simp; done) | (simp; omega) | (simp at *; omega))) | (with_reducible refine Below.drew ?_) | (with_reducible refine below_drewN ?_ _) | ((refine Below.trans ?_ (Below.mono (by with_reducible assumption) ?_)); rotate_left; · (first | omega | (simp; done) | (simp; omega) | (simp at *; omega)))))⟩
            simp [results, Try.results19, go_sem]
end Go.Proofs.Ytbfdecfdmigoiaa
