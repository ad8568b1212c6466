/-
  What is proved here: the law ScaleBack returns true for all it is given. Conditions: none.
-/
import Derived.Test.YtbfdecfdmigoiaaScaleWords
import Derived.Test.YtbfdecfdmigoiaaScaleRaws
namespace Go.Proofs.Ytbfdecfdmigoiaa
namespace ScaleBack
open Go.ChangeShapes Go.WideShapes Go.ChangeAt Go.RowKit Go.Deep
open ScaleWords ScaleRaws

set_option maxRecDepth 100000 in
set_option maxHeartbeats 4000000 in
theorem walk (s : Sca) (raw : Int) (A : Option Addr) (cap : Nat) (M : List Int) (w : World) (hA : IntsAt .u16 w A M) (hL : ∀ x ∈ M, U16 x) :
    Calls Try.prog 9 #[.agg s.cells, .int .i64 raw, .slice A M.length cap] w fun e w' => e = .returned (.bool true) ∧ Below w.heap.size w w' := by
  have HCL := Lib.hid (show s.cells = #[.bool s.wide, .bool s.signed, .bool s.swap, .int .i64 s.mul, .int .i64 s.div, .int .i64 s.add] from rfl)
  rw [HCL.out]
  have HB := Lib.hid (show CB w w.heap.size s (w.alloc (.cells #[.bool s.wide, .bool s.signed, .bool s.swap, .int .i64 s.mul, .int .i64 s.div, .int .i64 s.add] 23)) from ⟨Blk.new _ _ _, by (repeat (first | (with_reducible assumption) | (with_reducible exact Below.refl _ _) | ((with_reducible refine Below.setCell ?_ ?_ _); rotate_left; · (first | omega | (simp; done) | (simp; omega) | (simp at *; omega))) | ((with_reducible refine Below.alloc ?_ ?_ _); rotate_left; · (first | omega | (simp; done) | (simp; omega) | (simp at *; omega))) | (with_reducible refine Below.drew ?_) | (with_reducible refine below_drewN ?_ _) | ((refine Below.trans ?_ (Below.mono (by with_reducible assumption) ?_)); rotate_left; · (first | omega | (simp; done) | (simp; omega) | (simp at *; omega)))))⟩)
  have HA := Lib.hid hA
  have HM := Lib.hid hL
  obtain ⟨n, hn⟩ : ∃ n, n = M.length := ⟨_, rfl⟩
  have HN := Lib.hid hn.symm
  rw [← hn]
  clear hA hL hn
  by_cases hbig : 65536 < n
  · have hb : (65536 : Int) < (n : Int) := by omega
    go_enter Try.func9, Try.ntmps9
    go_wp2_with fail
    refine (works_any _).mono ?_
    rintro e w1 ⟨rfl, hb1⟩
    go_wp2
    go_ret
    exact ⟨rfl, by (repeat (first | (with_reducible assumption) | (with_reducible exact Below.refl _ _) | ((with_reducible refine Below.setCell ?_ ?_ _); rotate_left; · (first | omega | (simp; done) | (simp; omega) | (simp at *; omega))) | ((with_reducible refine Below.alloc ?_ ?_ _); rotate_left; · (first | omega | (simp; done) | (simp; omega) | (simp at *; omega))) | (with_reducible refine Below.drew ?_) | (with_reducible refine below_drewN ?_ _) | ((refine Below.trans ?_ (Below.mono (by with_reducible assumption) ?_)); rotate_left; · (first | omega | (simp; done) | (simp; omega) | (simp at *; omega)))))⟩
  have hbi : ¬ (65536 : Int) < (n : Int) := by omega
  have hlen := words_len s raw
  have hwu := wordsTo_u16 s raw
  obtain ⟨⟨L, k⟩, hv⟩ : ∃ p, p = wordsTo s raw := ⟨_, rfl⟩
  have HV := Lib.hid hv.symm
  have hways := words_ways hv.symm
  rw [← hv] at hlen hwu
  dsimp only at hlen hwu
  have HU := Lib.hid hwu
  obtain ⟨l, hl⟩ : ∃ l, l = L.length := ⟨_, rfl⟩
  have HL := Lib.hid hl.symm
  rw [← hl] at hlen
  obtain ⟨⟨v, m⟩, hr⟩ : ∃ p, p = rawTo s M := ⟨_, rfl⟩
  have HR := Lib.hid hr.symm
  have hrw := raw_ways hr.symm
  clear hv hl hr hwu
  go_enter Try.func9, Try.ntmps9
  obtain ⟨c0, c1, c2, c3, c4, c5, hl⟩ := HB.out.all
  go_wp2_with fail
  refine (words_to s raw k L l _ HV.out HL.out).mono ?_
  rintro e w1 ⟨A1, k1, rfl, hrd1, hr1, ho1, hb1⟩
  have HB1 := Lib.hid (HB.out.below hb1)
  have D1 := Lib.hid hrd1
  have HA1 := Lib.hid (HA.out.below HB1.out.2 (Nat.le_refl _))
  clear c0 c1 c2 c3 c4 c5 hl HB hb1 hrd1 hr1 ho1
  obtain ⟨wx, rfl⟩ : ∃ wq : World, wq = w1 := ⟨_, rfl⟩
  obtain ⟨c0, c1, c2, c3, c4, c5, hl⟩ := HB1.out.all
  go_upto_if 25 with fail
  go_cut [9, 10] (fun _ _ wy => Below wx.heap.size wx wy)
  case first =>
    rcases hways with rfl | rfl | rfl
    · go_wp2_with fail
      go_meet
      exact Below.refl _ _
    · go_wp2_with fail
      go_meet
      exact Below.refl _ _
    · have HZ := Lib.hid (raw_of_words HV.out)
      obtain ⟨A1', k1', he, hi⟩ := D1.out
      injection he with e1 e2 e3
      subst e1 e3
      have HI := Lib.hid hi
      clear hi e2
      go_wp2_with fail
      refine (raw_to s _ l _ L raw 0 _ HL.out HI.out HU.out HZ.out).mono ?_
      rintro e w2 ⟨rfl, hb2⟩
      go_wp2_with fail
      go_meet
      exact hb2
  case rest =>
    clear c0 c1 c2 c3 c4 c5 hl
    obtain ⟨wy, rfl⟩ : ∃ wq : World, wq = wc := ⟨_, rfl⟩
    have HB2 := Lib.hid (HB1.out.below hcut)
    clear hcut
    have HA2 := Lib.hid (HA.out.below HB2.out.2 (Nat.le_refl _))
    clear HB1 hways
    obtain ⟨c0, c1, c2, c3, c4, c5, hl⟩ := HB2.out.all
    rcases hrw with ⟨rfl, rfl⟩ | ⟨rfl, rfl⟩ | rfl
    · go_wp2_with fail
      refine (raw_to s _ n _ M _ _ _ HN.out HA2.out HM.out HR.out).mono ?_
      rintro e w2 ⟨rfl, hb2⟩
      have HB3 := Lib.hid (HB2.out.below hb2)
      clear c0 c1 c2 c3 c4 c5 hl HB2 hb2
      go_wp2_with fail
      refine (works_any _).mono ?_
      rintro e w7 ⟨rfl, hb7⟩
      have HW := Lib.hid (HB3.out.2.trans (hb7.mono HB3.out.2.size))
      clear hb7
      go_wp2_with fail
      go_ret
      exact ⟨rfl, HW.out⟩
    · go_wp2_with fail
      refine (raw_to s _ n _ M _ _ _ HN.out HA2.out HM.out HR.out).mono ?_
      rintro e w2 ⟨rfl, hb2⟩
      have HB3 := Lib.hid (HB2.out.below hb2)
      clear c0 c1 c2 c3 c4 c5 hl HB2 hb2
      go_wp2_with fail
      refine (works_any _).mono ?_
      rintro e w7 ⟨rfl, hb7⟩
      have HW := Lib.hid (HB3.out.2.trans (hb7.mono HB3.out.2.size))
      clear hb7
      go_wp2_with fail
      go_ret
      exact ⟨rfl, HW.out⟩
    · have HZ := Lib.hid (words_of_raw HM.out HR.out)
      go_wp2_with fail
      refine (raw_to s _ n _ M _ _ _ HN.out HA2.out HM.out HR.out).mono ?_
      rintro e w2 ⟨rfl, hb2⟩
      have HB3 := Lib.hid (HB2.out.below hb2)
      clear c0 c1 c2 c3 c4 c5 hl HB2 hb2
      obtain ⟨c0, c1, c2, c3, c4, c5, hl⟩ := HB3.out.all
      go_wp2_with fail
      refine (words_to s v 0 M n _ HZ.out HN.out).mono ?_
      rintro e w3 ⟨A3, k3, rfl, hrd3, hr3, ho3, hb3⟩
      have HB4 := Lib.hid (HB3.out.below hb3)
      have D3 := Lib.hid hrd3
      clear c0 c1 c2 c3 c4 c5 hl HB3 hb3 hrd3 hr3 ho3
      have HA4 := Lib.hid (show Reads .u16 w3 (.slice A n cap) M from ⟨A, cap, by rw [HN.out], HA.out.below HB4.out.2 (Nat.le_refl _)⟩)
      go_wp2_with fail
      refine (Words.same_yes D3.out HA4.out (by rw [HN.out]; omega)).mono ?_
      rintro e w4 ⟨rfl, hb4⟩
      have HB5 := Lib.hid (HB4.out.below hb4)
      clear hb4
      go_wp2_with fail
      refine (works_any _).mono ?_
      rintro e w7 ⟨rfl, hb7⟩
      have HW := Lib.hid (HB5.out.2.trans (hb7.mono HB5.out.2.size))
      clear hb7
      go_wp2_with fail
      go_ret
      exact ⟨rfl, HW.out⟩

theorem own : ownKnob Try.prog.godebug = none := by kernel_rfl

set_option maxRecDepth 100000 in
theorem lifted (os : Os) (started : os.Started) (H : Type) (enc : TypeId × Value → H) :
    ReturnsInHanded {} Try.checked os 9 .any (Rows.scaleBackSpec.pre6 enc Try.prog Try.f9 Rows.scaleBackRow.domain false) (Rows.scaleBackSpec.post enc Try.prog Try.f9 false true false false) := by
  refine law_lifted (C := Try.checked) (tb := 4) own started (by kernel_rfl) Try.func9
    (ChangeSpec.witness6 (enc := enc) (C := Try.checked) false ⟨#[], #[.agg #[.bool false, .bool false, .bool false, .int .i64 0, .int .i64 0, .int .i64 0], .int .i64 0, .slice none 0 0], []⟩ 8 (by kernel_rfl) (by kernel_rfl) (by kernel_rfl) (by kernel_rfl))
    rfl (by kernel_rfl) (by kernel_rfl) (by kernel_rfl) Try.underlying4 (fun ds h => ?_) ?_
  · rw [show Try.f9.params = #[23, 3, 24] from Try.params9] at h
    match ds, h with
    | [_, _, _], _ => rfl
  · intro W base args ds before hval hA hlt hsz
    rw [show Try.f9.params = #[23, 3, 24] from Try.params9] at hA hval hsz
    obtain ⟨v0, vs0, d0, ds0, p0, q0, hargs, rfl, rfl, h0, r0⟩ := trodAll_cons hA
    obtain ⟨v1, vs1, d1, ds1, p1, q1, rfl, rfl, rfl, h1, r1⟩ := trodAll_cons r0
    obtain ⟨v2, vs2, d2, ds2, p2, q2, rfl, rfl, rfl, h2, r2⟩ := trodAll_cons r1
    obtain ⟨rfl, rfl, rfl⟩ := trodAll_nil r2
    obtain rfl : args = #[v0, v1, v2] := by cases args; simp_all
    obtain ⟨s, rfl, _, _, _⟩ := open_sca (hval 0 _ v0 rfl rfl) h0
    obtain ⟨v, rfl, _, _, _⟩ := open_int Try.underlying3 (hval 1 3 v1 rfl rfl) h1
    obtain ⟨A, cap, L, rfl, _, _, hA, hL⟩ := open_ints_at (k := .u16) (n := 2) (j := 2) Try.underlying24 Try.underlying41 (by kernel_rfl) (by kernel_rfl) (hval 2 _ v2 rfl rfl) h2 hsz rfl rfl
    exact walk s v A cap L W hA (fun x hx => by have := hL x hx; simp [Lit.wf, IntKind.min, IntKind.max, IntKind.signed, IntKind.bits] at this; exact ⟨by omega, by omega⟩)

theorem proved : Rows.ScaleBackSaid :=
  OpenClaim.holds_of_wide 9 Try.f9 rfl rfl rfl rfl rfl rfl rfl ⟨rfl, rfl, rfl, rfl, rfl⟩ rfl rfl rfl rfl rfl (by kernel_rfl) Try.func9 (by kernel_rfl)
    (of_decide_eq_true (by kernel_rfl)) (by unfold Func.isWrapper; rw [if_neg (of_decide_eq_false (by kernel_rfl))]; exact ⟨rfl, rfl⟩)
    (fun os started H enc _ => lifted os started H enc)
#print axioms proved
end ScaleBack
end Go.Proofs.Ytbfdecfdmigoiaa
