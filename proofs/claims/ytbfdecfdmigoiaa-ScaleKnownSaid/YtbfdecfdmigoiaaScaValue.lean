/-
  What is proved here: what Value of package scale, and of its reference, answers (chapter 6). Conditions: none.
-/
import Derived.Test.YtbfdecfdmigoiaaScaCheck2
namespace Go.Proofs.Ytbfdecfdmigoiaa
open Go.RowKit Go.Deep

def Sca.mean (s : Sca) (raw : Int) : Int := clip (near (raw * s.mul) s.div + s.add) (-1099511627776) 1099511627776
def valTo (s : Sca) (raw : Int) : Int × Int := if ¬ s.Ok then (0, 25) else if raw < -2147483648 ∨ 4294967295 < raw then (0, 3) else (s.mean raw, 0)
theorem mul_bound {a b : Int} (h1 : -4294967296 ≤ a) (h2 : a ≤ 4294967296) (h3 : -1000000 ≤ b) (h4 : b ≤ 1000000) : -4294967296000000 ≤ a * b ∧ a * b ≤ 4294967296000000 := by
  have e : (a * b).natAbs ≤ 4294967296 * 1000000 := by
    rw [Int.natAbs_mul]
    exact Nat.mul_le_mul (by omega) (by omega)
  omega
theorem near_bound {n d : Int} (hd : 1 ≤ d) (hd2 : d ≤ 1000000) (h1 : -4294967296000000 ≤ n) (h2 : n ≤ 4294967296000000) : -8589934594000000 ≤ near n d ∧ near n d ≤ 8589934594000000 := by
  unfold near
  by_cases h : n < 0
  · rw [if_pos h]
    have := near0_le (n := -n) (d := d) (by omega) hd
    obtain ⟨p1, p2, p3⟩ := near0_spec (n := -n) (d := d) (by omega) (by omega)
    omega
  · rw [if_neg h]
    have := near0_le (n := n) (d := d) (by omega) hd
    obtain ⟨p1, p2, p3⟩ := near0_spec (n := n) (d := d) (by omega) (by omega)
    omega
theorem check_at (s : Sca) (w : World) (n : Int) (h : s.err = n) : Calls Try.prog 15 #[.agg #[.bool s.wide, .bool s.signed, .bool s.swap, .int .i64 s.mul, .int .i64 s.div, .int .i64 s.add]] w fun e w' => e = .returned (.int .i64 n) ∧ Below w.heap.size w w' := by
  subst h
  exact check_any s w
def ValBack (s : Sca) (raw : Int) (w : World) (e : Ending) (w' : World) : Prop := e = .returned (.tuple #[.int .i64 (valTo s raw).1, .int .i64 (valTo s raw).2]) ∧ Below w.heap.size w w'

set_option maxHeartbeats 1000000 in
theorem value_any (s : Sca) (raw : Int) (w : World) :
    Calls Try.prog 18 #[.agg s.cells, .int .i64 raw] w (ValBack s raw w) := by
  have HCL := Lib.hid (show s.cells = #[.bool s.wide, .bool s.signed, .bool s.swap, .int .i64 s.mul, .int .i64 s.div, .int .i64 s.add] from rfl)
  rw [HCL.out]
  have HB := Lib.hid (show CB w w.heap.size s (w.alloc (.cells #[.bool s.wide, .bool s.signed, .bool s.swap, .int .i64 s.mul, .int .i64 s.div, .int .i64 s.add] 23)) from ⟨Blk.new _ _ _, by (repeat (first | (with_reducible assumption) | (with_reducible exact Below.refl _ _) | ((with_reducible refine Below.setCell ?_ ?_ _); rotate_left; · (first | omega | (simp; done) | (simp; omega) | (simp at *; omega))) | ((with_reducible refine Below.alloc ?_ ?_ _); rotate_left; · (first | omega | (simp; done) | (simp; omega) | (simp at *; omega))) | (with_reducible refine Below.drew ?_) | (with_reducible refine below_drewN ?_ _) | ((refine Below.trans ?_ (Below.mono (by with_reducible assumption) ?_)); rotate_left; · (first | omega | (simp; done) | (simp; omega) | (simp at *; omega)))))⟩)
  by_cases ho : s.Ok
  rotate_left
  · have HE := Lib.hid (show s.err = 25 from if_neg ho)
    have HV := Lib.hid (show valTo s raw = (0, 25) from if_pos ho)
    unfold ValBack
    rw [HV.out]
    clear ho
    go_enter Try.func18, Try.ntmps18
    obtain ⟨c0, c1, c2, c3, c4, c5, hl⟩ := HB.out.all
    go_wp2_with fail
    refine (check_at s _ 25 HE.out).mono ?_
    rintro e w1 ⟨rfl, hb1⟩
    go_wp2_with fail
    refine bodyPost_ret (v := .tuple #[.int .i64 0, .int .i64 25]) ?_ rfl ⟨rfl, by (repeat (first | (with_reducible assumption) | (with_reducible exact Below.refl _ _) | ((with_reducible refine Below.setCell ?_ ?_ _); rotate_left; · (first | omega | (simp; done) | (simp; omega) | (simp at *; omega))) | ((with_reducible refine Below.alloc ?_ ?_ _); rotate_left; · (first | omega | (simp; done) | (simp; omega) | (simp at *; omega))) | (with_reducible refine Below.drew ?_) | (with_reducible refine below_drewN ?_ _) | ((refine Below.trans ?_ (Below.mono (by with_reducible assumption) ?_)); rotate_left; · (first | omega | (simp; done) | (simp; omega) | (simp at *; omega)))))⟩
    simp [results, Try.results18, go_sem]
  · have HE := Lib.hid (show s.err = 0 from if_pos ho)
    have HO := Lib.hid ho
    by_cases hr : raw < -2147483648 ∨ 4294967295 < raw
    · have HV := Lib.hid (show valTo s raw = (0, 3) by unfold valTo; rw [if_neg (by simp [ho]), if_pos hr])
      unfold ValBack
      rw [HV.out]
      obtain ⟨q1, q2⟩ := same_clip raw (-2147483648) 4294967295 (by decide)
      rw [decide_eq_true hr] at q1 q2
      simp only [Bool.not_true] at q1
      have hne : ¬ raw = clip raw (-2147483648) 4294967295 := by simpa using q1
      clear ho hr
      go_enter Try.func18, Try.ntmps18
      obtain ⟨c0, c1, c2, c3, c4, c5, hl⟩ := HB.out.all
      go_wp2_with fail
      refine (check_at s _ 0 HE.out).mono ?_
      rintro e w1 ⟨rfl, hb1⟩
      go_wp2_with fail
      refine (within_any raw (-2147483648) 4294967295 _).mono ?_
      rintro e w2 ⟨rfl, rfl⟩
      go_wp2_with fail
      refine bodyPost_ret (v := .tuple #[.int .i64 0, .int .i64 3]) ?_ rfl ⟨rfl, by (repeat (first | (with_reducible assumption) | (with_reducible exact Below.refl _ _) | ((with_reducible refine Below.setCell ?_ ?_ _); rotate_left; · (first | omega | (simp; done) | (simp; omega) | (simp at *; omega))) | ((with_reducible refine Below.alloc ?_ ?_ _); rotate_left; · (first | omega | (simp; done) | (simp; omega) | (simp at *; omega))) | (with_reducible refine Below.drew ?_) | (with_reducible refine below_drewN ?_ _) | ((refine Below.trans ?_ (Below.mono (by with_reducible assumption) ?_)); rotate_left; · (first | omega | (simp; done) | (simp; omega) | (simp at *; omega)))))⟩
      simp [results, Try.results18, go_sem]
    · have HV := Lib.hid (show valTo s raw = (s.mean raw, 0) by unfold valTo; rw [if_neg (by simp [ho]), if_neg hr])
      unfold ValBack
      rw [HV.out]
      obtain ⟨q1, q2⟩ := same_clip raw (-2147483648) 4294967295 (by decide)
      rw [decide_eq_false hr] at q1 q2
      simp only [Bool.not_false] at q1
      have heq : raw = clip raw (-2147483648) 4294967295 := by simpa using q1
      have heq' := Lib.hid heq.symm
      have hm := mul_bound (a := raw) (b := s.mul) (by omega) (by omega) (by have := ho.2.1; omega) (by have := ho.2.1; omega)
      have hd := ho.2.2.1
      have ha := ho.2.2.2.1
      have hnb := near_bound (n := raw * s.mul) (d := s.div) hd.1 hd.2 hm.1 hm.2
      clear ho hr heq q1 q2
      go_enter Try.func18, Try.ntmps18
      obtain ⟨c0, c1, c2, c3, c4, c5, hl⟩ := HB.out.all
      go_wp2_with fail
      refine (check_at s _ 0 HE.out).mono ?_
      rintro e w1 ⟨rfl, hb1⟩
      go_wp2_with fail
      refine (within_any raw (-2147483648) 4294967295 _).mono ?_
      rw [heq'.out]
      rintro e w2 ⟨rfl, rfl⟩
      have HB2 := Lib.hid (show CB w w.heap.size s w1 from ⟨Blk.below HB.out.1 hb1 HB.out.1.lt, HB.out.2.trans (hb1.mono (by simp))⟩)
      clear c0 c1 c2 c3 c4 c5 hl hb1 HB
      go_upto_region 6 with fail
      go_cut [4, 5] (fun s4 s5 wx => s4 = .int .i64 (s.mean raw) ∧ s5 = .int .i64 0 ∧ Below w.heap.size w wx)
      case first =>
        obtain ⟨c0, c1, c2, c3, c4, c5, hl⟩ := HB2.out.all
        have hbel := HB2.out.2
        have e1 : wrap64 (raw * s.mul) = raw * s.mul := IntWalk.wrap64_in _ ⟨by omega, by omega⟩
        have e2 : wrap64 (near (raw * s.mul) s.div + s.add) = near (raw * s.mul) s.div + s.add := IntWalk.wrap64_in _ ⟨by omega, by omega⟩
        have HC := Lib.hid (within_same (near (raw * s.mul) s.div + s.add) (-1099511627776) 1099511627776)
        have HN := Lib.hid (fun w0 => (nearest_any (raw * s.mul) s.div w0 (by omega) (by omega) hd.1 hd.2).mono (R' := fun e w' => e = .returned (.int .i64 (near (raw * s.mul) s.div)) ∧ w' = w0) fun _ _ h => ⟨h.1, h.2.symm⟩)
        go_quiet ((first | (go_at_call 27; exact Calls.quiet_of_same (HN.out _)) | (go_at_call 26; exact Calls.quiet_of_same (HC.out _))))
        go_wp2_with fail
        go_meet
        exact ⟨rfl, rfl, by (repeat (first | (with_reducible assumption) | (with_reducible exact Below.refl _ _) | ((with_reducible refine Below.setCell ?_ ?_ _); rotate_left; · (first | omega | (simp; done) | (simp; omega) | (simp at *; omega))) | ((with_reducible refine Below.alloc ?_ ?_ _); rotate_left; · (first | omega | (simp; done) | (simp; omega) | (simp at *; omega))) | (with_reducible refine Below.drew ?_) | (with_reducible refine below_drewN ?_ _) | ((refine Below.trans ?_ (Below.mono (by with_reducible assumption) ?_)); rotate_left; · (first | omega | (simp; done) | (simp; omega) | (simp at *; omega)))))⟩
      case rest =>
        obtain ⟨rfl, rfl, hbel⟩ := hcut
        go_wp2_with fail
        refine bodyPost_ret (v := .tuple #[.int .i64 (s.mean raw), .int .i64 0]) ?_ rfl ⟨rfl, by (repeat (first | (with_reducible assumption) | (with_reducible exact Below.refl _ _) | ((with_reducible refine Below.setCell ?_ ?_ _); rotate_left; · (first | omega | (simp; done) | (simp; omega) | (simp at *; omega))) | ((with_reducible refine Below.alloc ?_ ?_ _); rotate_left; · (first | omega | (simp; done) | (simp; omega) | (simp at *; omega))) | (with_reducible refine Below.drew ?_) | (with_reducible refine below_drewN ?_ _) | ((refine Below.trans ?_ (Below.mono (by with_reducible assumption) ?_)); rotate_left; · (first | omega | (simp; done) | (simp; omega) | (simp at *; omega)))))⟩
        simp [results, Try.results18, go_sem]
end Go.Proofs.Ytbfdecfdmigoiaa
