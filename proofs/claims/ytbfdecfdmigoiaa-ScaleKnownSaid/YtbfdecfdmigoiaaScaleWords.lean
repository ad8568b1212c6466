/-
  What is proved here: the law ScaleWords returns true for all it is given. Conditions: none.
-/
import Derived.Test.YtbfdecfdmigoiaaScaKit
import Derived.Test.YtbfdecfdmigoiaaScaLaws3
import Derived.Test.YtbfdecfdmigoiaaKitWords
namespace Go.Proofs.Ytbfdecfdmigoiaa
namespace ScaleWords
open Go.ChangeShapes Go.WideShapes Go.ChangeAt Go.RowKit Go.Deep

/-- words in memory of their own, of a length that is told. -/
def At (L : List Int) (l : Nat) (n : Int) (w : World) (e : Ending) (w' : World) : Prop :=
  ∃ A cap, e = .returned (.tuple #[.slice A l cap, .int .i64 n]) ∧ Reads .u16 w' (.slice A l cap) L ∧ Row .u16 41 w' (.slice A l cap) l ∧ (∀ b, (Value.slice A l cap).ownBlock = some b → w.heap.size ≤ b) ∧ Below w.heap.size w w'
theorem words_to (s : Sca) (raw n : Int) (L : List Int) (l : Nat) (w : World) (h : wordsTo s raw = (L, n)) (hl : L.length = l) :
    Calls Try.prog 20 #[.agg #[.bool s.wide, .bool s.signed, .bool s.swap, .int .i64 s.mul, .int .i64 s.div, .int .i64 s.add], .int .i64 raw] w (At L l n w) := by
  subst hl
  refine (words_all s raw w).mono ?_
  rw [h]
  rintro e w' ⟨A, cap, rfl, h1, h2, h3, h4⟩
  exact ⟨A, cap, rfl, ⟨A, cap, rfl, h1⟩, h2, h3, h4⟩
theorem rwords_to (s : Sca) (raw n : Int) (L : List Int) (l : Nat) (w : World) (h : wordsTo s raw = (L, n)) (hl : L.length = l) :
    Calls Try.prog 21 #[.agg #[.bool s.wide, .bool s.signed, .bool s.swap, .int .i64 s.mul, .int .i64 s.div, .int .i64 s.add], .int .i64 raw] w (At L l n w) := by
  subst hl
  refine (rwords_all s raw w).mono ?_
  rw [h]
  rintro e w' ⟨A, cap, rfl, h1, h2, h3, h4⟩
  exact ⟨A, cap, rfl, ⟨A, cap, rfl, h1⟩, h2, h3, h4⟩

set_option maxRecDepth 100000 in
set_option maxHeartbeats 4000000 in
theorem walk (s : Sca) (raw : Int) (w : World) :
    Calls Try.prog 8 #[.agg s.cells, .int .i64 raw] w fun e w' => e = .returned (.bool true) ∧ Below w.heap.size w w' := by
  have HCL := Lib.hid (show s.cells = #[.bool s.wide, .bool s.signed, .bool s.swap, .int .i64 s.mul, .int .i64 s.div, .int .i64 s.add] from rfl)
  rw [HCL.out]
  have HB := Lib.hid (show CB w w.heap.size s (w.alloc (.cells #[.bool s.wide, .bool s.signed, .bool s.swap, .int .i64 s.mul, .int .i64 s.div, .int .i64 s.add] 23)) from ⟨Blk.new _ _ _, by (repeat (first | (with_reducible assumption) | (with_reducible exact Below.refl _ _) | ((with_reducible refine Below.setCell ?_ ?_ _); rotate_left; · (first | omega | (simp; done) | (simp; omega) | (simp at *; omega))) | ((with_reducible refine Below.alloc ?_ ?_ _); rotate_left; · (first | omega | (simp; done) | (simp; omega) | (simp at *; omega))) | (with_reducible refine Below.drew ?_) | (with_reducible refine below_drewN ?_ _) | ((refine Below.trans ?_ (Below.mono (by with_reducible assumption) ?_)); rotate_left; · (first | omega | (simp; done) | (simp; omega) | (simp at *; omega)))))⟩)
  have hlen := words_len s raw
  obtain ⟨⟨L, n⟩, hv⟩ : ∃ p, p = wordsTo s raw := ⟨_, rfl⟩
  have HV := Lib.hid hv.symm
  rw [← hv] at hlen
  dsimp only at hlen
  obtain ⟨l, hl⟩ : ∃ l, l = L.length := ⟨_, rfl⟩
  have HL := Lib.hid hl.symm
  rw [← hl] at hlen
  clear hv hl
  go_enter Try.func8, Try.ntmps8
  obtain ⟨c0, c1, c2, c3, c4, c5, hl⟩ := HB.out.all
  go_wp2_with fail
  refine (words_to s raw n L l _ HV.out HL.out).mono ?_
  rintro e w1 ⟨A1, k1, rfl, hrd1, hr1, ho1, hb1⟩
  have HB1 := Lib.hid (HB.out.below hb1)
  have R1 := Lib.hid hr1
  have D1 := Lib.hid hrd1
  have O1 := Lib.hid (show ∀ b, (Value.slice A1 l k1).ownBlock = some b → w.heap.size ≤ b ∧ b < w1.heap.size from fun b e => ⟨by have := ho1 b e; simp at this; omega, hr1.lt e⟩)
  clear c0 c1 c2 c3 c4 c5 hl HB hb1 hrd1 hr1 ho1
  obtain ⟨c0, c1, c2, c3, c4, c5, hl⟩ := HB1.out.all
  go_wp2_with fail
  refine (words_to s raw n L l _ HV.out HL.out).mono ?_
  rintro e w2 ⟨A2, k2, rfl, hrd2, hr2, ho2, hb2⟩
  have HB2 := Lib.hid (HB1.out.below hb2)
  have R12 := Lib.hid (R1.out.below hb2)
  have D12 := Lib.hid (D1.out.below hb2)
  have R2 := Lib.hid hr2
  have D2 := Lib.hid hrd2
  have O2 := Lib.hid (show ∀ b, (Value.slice A2 l k2).ownBlock = some b → w1.heap.size ≤ b ∧ b < w2.heap.size from fun b e => ⟨ho2 b e, hr2.lt e⟩)
  have Z2 := Lib.hid (show w.heap.size ≤ w1.heap.size ∧ w1.heap.size ≤ w2.heap.size from ⟨HB1.out.2.size, hb2.size⟩)
  clear c0 c1 c2 c3 c4 c5 hl HB1 hb2 hrd2 hr2 ho2 R1 D1
  obtain ⟨c0, c1, c2, c3, c4, c5, hl⟩ := HB2.out.all
  go_wp2_with fail
  refine (rwords_to s raw n L l _ HV.out HL.out).mono ?_
  rintro e w3 ⟨A3, k3, rfl, hrd3, hr3, ho3, hb3⟩
  have HB3 := Lib.hid (HB2.out.below hb3)
  have R13 := Lib.hid (R12.out.below hb3)
  have D13 := Lib.hid (D12.out.below hb3)
  have R23 := Lib.hid (R2.out.below hb3)
  have D23 := Lib.hid (D2.out.below hb3)
  have D33 := Lib.hid hrd3
  have Z3 := Lib.hid hb3.size
  clear c0 c1 c2 c3 c4 c5 hl HB2 hb3 hrd3 hr3 ho3 R12 D12 R2 D2
  go_wp2_with fail
  refine (Words.same_yes D13.out D33.out (by rw [HL.out]; omega)).mono ?_
  rintro e w4 ⟨rfl, hb4⟩
  have W4 := Lib.hid hb4
  clear hb4
  go_wp2_with fail
  refine (Words.same_yes (D23.out.below W4.out) (D33.out.below W4.out) (by rw [HL.out]; omega)).mono ?_
  rintro e w5 ⟨rfl, hb5⟩
  have W5 := Lib.hid (W4.out.trans (hb5.mono W4.out.size))
  clear hb5
  go_wp2_with fail
  have hwa : Below w5.heap.size w5 (w5.alloc (.cells #[.slice A1 l k1, .slice A2 l k2] 24)) := (Below.refl _ _).alloc (Nat.le_refl _) _
  have hz5 := W5.out.size
  have HX := Lib.hid (Blk.new w5 24 #[.slice A1 l k1, .slice A2 l k2])
  refine (Words.apart_two w.heap.size w5.heap.size (.slice A1 l k1) (.slice A2 l k2) l l _ ((R13.out.below W5.out).below hwa) ((R23.out.below W5.out).below hwa) (HX.out.cell 0) (HX.out.cell 1) (by simp) (by have := Z2.out; have := Z3.out; simp; omega) ?_ ?_ ?_ (by omega) (by omega)).mono ?_
  · intro b e1 e2
    have h1 := O1.out b e1
    have h2 := O2.out b e2
    omega
  · intro b e1
    have h1 := O1.out b e1
    have := Z2.out
    have := Z3.out
    exact ⟨h1.1, by omega⟩
  · intro b e1
    have h1 := O2.out b e1
    have := Z2.out
    have := Z3.out
    exact ⟨by omega, by omega⟩
  rintro e w6 ⟨rfl, hb6⟩
  have hall := (((HB3.out.2.trans (W5.out.mono HB3.out.2.size)).trans (hwa.mono (Nat.le_trans HB3.out.2.size W5.out.size))).trans hb6)
  have W6 := Lib.hid hall
  clear hall hb6 hwa hz5
  go_wp2_with fail
  refine (works_any _).mono ?_
  rintro e w7 ⟨rfl, hb7⟩
  have HW := Lib.hid (W6.out.trans (hb7.mono W6.out.size))
  clear hb7
  go_wp2_with fail
  go_ret
  exact ⟨rfl, HW.out⟩

theorem own : ownKnob Try.prog.godebug = none := by kernel_rfl

set_option maxRecDepth 100000 in
theorem lifted (os : Os) (started : os.Started) (H : Type) (enc : TypeId × Value → H) :
    ReturnsInHanded {} Try.checked os 8 .any (Rows.scaleWordsSpec.pre6 enc Try.prog Try.f8 Rows.scaleWordsRow.domain false) (Rows.scaleWordsSpec.post enc Try.prog Try.f8 false true false false) := by
  refine law_lifted (C := Try.checked) (tb := 4) own started (by kernel_rfl) Try.func8
    (ChangeSpec.witness6 (enc := enc) (C := Try.checked) false ⟨#[], #[.agg #[.bool false, .bool false, .bool false, .int .i64 0, .int .i64 0, .int .i64 0], .int .i64 0], []⟩ 8 (by kernel_rfl) (by kernel_rfl) (by kernel_rfl) (by kernel_rfl))
    rfl (by kernel_rfl) (by kernel_rfl) (by kernel_rfl) Try.underlying4 (fun ds h => ?_) ?_
  · rw [show Try.f8.params = #[23, 3] from Try.params8] at h
    match ds, h with
    | [_, _], _ => rfl
  · intro W base args ds before hval hA hlt hsz
    rw [show Try.f8.params = #[23, 3] from Try.params8] at hA hval hsz
    obtain ⟨v0, vs0, d0, ds0, p0, q0, hargs, rfl, rfl, h0, r0⟩ := trodAll_cons hA
    obtain ⟨v1, vs1, d1, ds1, p1, q1, rfl, rfl, rfl, h1, r1⟩ := trodAll_cons r0
    obtain ⟨rfl, rfl, rfl⟩ := trodAll_nil r1
    obtain rfl : args = #[v0, v1] := by cases args; simp_all
    obtain ⟨s, rfl, _, _, _⟩ := open_sca (hval 0 _ v0 rfl rfl) h0
    obtain ⟨v, rfl, _, _, _⟩ := open_int Try.underlying3 (hval 1 3 v1 rfl rfl) h1
    exact walk s v W

theorem proved : Rows.ScaleWordsSaid :=
  OpenClaim.holds_of_wide 8 Try.f8 rfl rfl rfl rfl rfl rfl rfl ⟨rfl, rfl, rfl, rfl, rfl⟩ rfl rfl rfl rfl rfl (by kernel_rfl) Try.func8 (by kernel_rfl)
    (of_decide_eq_true (by kernel_rfl)) (by unfold Func.isWrapper; rw [if_neg (of_decide_eq_false (by kernel_rfl))]; exact ⟨rfl, rfl⟩)
    (fun os started H enc _ => lifted os started H enc)
#print axioms proved
end ScaleWords
end Go.Proofs.Ytbfdecfdmigoiaa
