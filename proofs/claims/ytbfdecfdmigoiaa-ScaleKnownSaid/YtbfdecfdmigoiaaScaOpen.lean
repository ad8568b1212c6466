/-
  What is proved here: what comes in as a scale, and what Raw answers of any words (chapter 6). Conditions: the words are words.
-/
import Derived.Test.YtbfdecfdmigoiaaScaRRaw
import Derived.RegionTactic
namespace Go.Proofs.Ytbfdecfdmigoiaa
open Go.ChangeShapes Go.WideShapes Go.ChangeAt Go.RowKit Go.Deep Go.Joins

section
variable {H : Type} {enc : TypeId × Value → H} {P : Program} {w : World} {base : Nat} {spare : Nat → Bool} {held : Bool}
/-- A struct by value, each field of one cell: its cells, and how they read. -/
theorem open_agg_fields {r : Reach} {b0 : Nat} {t : TypeId} {fs : Array Field} {v : Value} {d : DataW H} {p : List MemPlace} (hs : P.underlying t = some (.struct fs)) (hone : oneCellFields P fs = true) (hC : P.cellsOf t = fs.size)
    (hv : Value.okWide P w r b0 t v) (h : DataW.Trod enc P w base spare held t v d p) :
    ∃ (cs : Array Value) (n : Nat), v = .agg cs ∧ cs.size = fs.size ∧ ∀ (j : Nat) (f : Field), fs[j]? = some f → ∃ (u : Value) (y : DataW H × List MemPlace), cs[j]? = some u ∧ DataW.trod enc P w base spare held n f.type [u] = some y := by
  obtain ⟨cs, rfl, hsz⟩ := okWide_struct hs hv
  obtain ⟨fuel, hf⟩ := h
  obtain ⟨ys, n, hn, hy, hlen, hyl, hg⟩ := DataW.trod_struct hs hf
  refine ⟨cs, n, rfl, hsz.trans hC, fun j f hj => ?_⟩
  obtain ⟨ho, hk⟩ := hone_of hone j f hj
  have hjl : j < fs.size := (Array.getElem?_eq_some_iff.1 hj).1
  have hjc : j < cs.size := by rw [hsz, hC]; exact hjl
  have h1 := hg j f hj
  rw [ho, hk] at h1
  have e : ((Value.agg cs).cells.toList.drop j).take 1 = [cs[j]] := by
    show (cs.toList.drop j).take 1 = _
    rw [List.drop_eq_getElem_cons (by simpa using hjc)]
    simp
  rw [e] at h1
  have hys : ys[j]? = some (ys[j]'(by omega)) := List.getElem?_eq_getElem (by omega)
  exact ⟨cs[j], _, Array.getElem?_eq_getElem hjc, h1.trans hys⟩
end

theorem scaC : Try.prog.cellsOf 23 = 6 := by kernel_rfl
theorem open_sca {H : Type} {enc : TypeId × Value → H} {W : World} {b0 : Nat} {v : Value} {d : DataW H} {p : List MemPlace}
    (hv : Value.okWide Try.prog W .any b0 23 v) (h : DataW.Trod enc Try.prog W 0 (fun _ => true) true 23 v d p) :
    ∃ s : Sca, v = .agg s.cells ∧ I64 s.mul ∧ I64 s.div ∧ I64 s.add := by
  obtain ⟨cs, n, rfl, hsz, hf⟩ := open_agg_fields Try.underlying23 (by kernel_rfl) scaC hv h
  obtain ⟨v0, y0, g0, t0⟩ := hf 0 _ rfl
  obtain ⟨v1, y1, g1, t1⟩ := hf 1 _ rfl
  obtain ⟨v2, y2, g2, t2⟩ := hf 2 _ rfl
  obtain ⟨v3, y3, g3, t3⟩ := hf 3 _ rfl
  obtain ⟨v4, y4, g4, t4⟩ := hf 4 _ rfl
  obtain ⟨v5, y5, g5, t5⟩ := hf 5 _ rfl
  obtain ⟨n0, e0, _⟩ := DataW.trod_bool Try.underlying4 t0
  obtain ⟨n1, e1, _⟩ := DataW.trod_bool Try.underlying4 t1
  obtain ⟨n2, e2, _⟩ := DataW.trod_bool Try.underlying4 t2
  obtain ⟨n3, e3, _, w3⟩ := DataW.trod_int Try.underlying3 t3
  obtain ⟨n4, e4, _, w4⟩ := DataW.trod_int Try.underlying3 t4
  obtain ⟨n5, e5, _, w5⟩ := DataW.trod_int Try.underlying3 t5
  simp only [List.cons.injEq, and_true] at e0 e1 e2 e3 e4 e5
  subst e0 e1 e2 e3 e4 e5
  refine ⟨⟨n0, n1, n2, n3, n4, n5⟩, congrArg _ ?_, I64.of w3, I64.of w4, I64.of w5⟩
  apply Array.ext_getElem?
  intro i
  by_cases hi : i < 6
  · have : i = 0 ∨ i = 1 ∨ i = 2 ∨ i = 3 ∨ i = 4 ∨ i = 5 := by omega
    rcases this with h | h | h | h | h | h <;> subst h <;> assumption
  · have hs6 : cs.size = 6 := hsz
    rw [Array.getElem?_eq_none (by omega), Array.getElem?_eq_none (by show 6 ≤ i; omega)]

set_option maxHeartbeats 1000000 in
theorem raw_any (s : Sca) (A : Option Addr) (cap : Nat) (L : List Int) (w : World) (hA : IntsAt .u16 w A L) (hL : ∀ x ∈ L, U16 x) :
    Calls Try.prog 13 #[.agg s.cells, .slice A L.length cap] w (RawBack s L w) := by
  have HCL := Lib.hid (show s.cells = #[.bool s.wide, .bool s.signed, .bool s.swap, .int .i64 s.mul, .int .i64 s.div, .int .i64 s.add] from rfl)
  by_cases ho : s.Ok
  rotate_left
  · have HE := Lib.hid (show s.err = 25 from if_neg ho)
    have HV := Lib.hid (rawTo_bad (L := L) ho)
    have HB := Lib.hid (show CB w w.heap.size s (w.alloc (.cells #[.bool s.wide, .bool s.signed, .bool s.swap, .int .i64 s.mul, .int .i64 s.div, .int .i64 s.add] 23)) from ⟨Blk.new _ _ _, by (repeat (first | (with_reducible assumption) | (with_reducible exact Below.refl _ _) | ((with_reducible refine Below.setCell ?_ ?_ _); rotate_left; · (first | omega | (simp; done) | (simp; omega) | (simp at *; omega))) | ((with_reducible refine Below.alloc ?_ ?_ _); rotate_left; · (first | omega | (simp; done) | (simp; omega) | (simp at *; omega))) | (with_reducible refine Below.drew ?_) | (with_reducible refine below_drewN ?_ _) | ((refine Below.trans ?_ (Below.mono (by with_reducible assumption) ?_)); rotate_left; · (first | omega | (simp; done) | (simp; omega) | (simp at *; omega)))))⟩)
    rw [HCL.out]
    unfold RawBack
    rw [HV.out]
    clear ho hA
    go_enter Try.func13, Try.ntmps13
    obtain ⟨c0, c1, c2, c3, c4, c5, hl⟩ := HB.out.all
    go_wp2_with fail
    refine (check_at s _ 25 HE.out).mono ?_
    rintro e w1 ⟨rfl, hb1⟩
    go_wp2_with fail
    refine bodyPost_ret (v := .tuple #[.int .i64 0, .int .i64 25]) ?_ rfl ⟨rfl, by (repeat (first | (with_reducible assumption) | (with_reducible exact Below.refl _ _) | ((with_reducible refine Below.setCell ?_ ?_ _); rotate_left; · (first | omega | (simp; done) | (simp; omega) | (simp at *; omega))) | ((with_reducible refine Below.alloc ?_ ?_ _); rotate_left; · (first | omega | (simp; done) | (simp; omega) | (simp at *; omega))) | (with_reducible refine Below.drew ?_) | (with_reducible refine below_drewN ?_ _) | ((refine Below.trans ?_ (Below.mono (by with_reducible assumption) ?_)); rotate_left; · (first | omega | (simp; done) | (simp; omega) | (simp at *; omega)))))⟩
    simp [results, Try.results13, go_sem]
  · by_cases hneed : L.length = s.need
    rotate_left
    · obtain ⟨wide, signed, swap, mul, div, add⟩ := s
      have HE := Lib.hid (show (Sca.mk wide signed swap mul div add).err = 0 from if_pos ho)
      have HV := Lib.hid (rawTo_len (L := L) ho hneed)
      have HB := Lib.hid (show CB w w.heap.size (Sca.mk wide signed swap mul div add) (w.alloc (.cells #[.bool wide, .bool signed, .bool swap, .int .i64 mul, .int .i64 div, .int .i64 add] 23)) from ⟨Blk.new _ _ _, by (repeat (first | (with_reducible assumption) | (with_reducible exact Below.refl _ _) | ((with_reducible refine Below.setCell ?_ ?_ _); rotate_left; · (first | omega | (simp; done) | (simp; omega) | (simp at *; omega))) | ((with_reducible refine Below.alloc ?_ ?_ _); rotate_left; · (first | omega | (simp; done) | (simp; omega) | (simp at *; omega))) | (with_reducible refine Below.drew ?_) | (with_reducible refine below_drewN ?_ _) | ((refine Below.trans ?_ (Below.mono (by with_reducible assumption) ?_)); rotate_left; · (first | omega | (simp; done) | (simp; omega) | (simp at *; omega)))))⟩)
      rw [HCL.out]
      unfold RawBack
      rw [HV.out]
      unfold Sca.need at hneed
      clear ho hA HCL HV
      cases wide
      · have hnn : ¬ L.length = 1 := by simpa using hneed
        clear hneed
        obtain ⟨n, hnl⟩ : ∃ n, n = L.length := ⟨_, rfl⟩
        rw [← hnl] at hnn ⊢
        clear hnl hL
        have t1 : ¬ (n : Int) = 1 := by omega
        go_enter Try.func13, Try.ntmps13
        obtain ⟨c0, c1, c2, c3, c4, c5, hl⟩ := HB.out.all
        dsimp only at c0 c1 c2 c3 c4 c5
        go_wp2_with fail
        refine (check_at (Sca.mk false signed swap mul div add) _ 0 HE.out).mono ?_
        rintro e w1 ⟨rfl, hb1⟩
        have HB2 := Lib.hid (show CB w w.heap.size (Sca.mk false signed swap mul div add) w1 from ⟨Blk.below HB.out.1 hb1 HB.out.1.lt, HB.out.2.trans (hb1.mono (by simp))⟩)
        clear c0 c1 c2 c3 c4 c5 hl hb1 HB
        obtain ⟨c0, c1, c2, c3, c4, c5, hl⟩ := HB2.out.all
        dsimp only at c0 c1 c2 c3 c4 c5
        have hbel := HB2.out.2
        go_wp2_with fail
        refine bodyPost_ret (v := .tuple #[.int .i64 0, .int .i64 22]) ?_ rfl ⟨rfl, by (repeat (first | (with_reducible assumption) | (with_reducible exact Below.refl _ _) | ((with_reducible refine Below.setCell ?_ ?_ _); rotate_left; · (first | omega | (simp; done) | (simp; omega) | (simp at *; omega))) | ((with_reducible refine Below.alloc ?_ ?_ _); rotate_left; · (first | omega | (simp; done) | (simp; omega) | (simp at *; omega))) | (with_reducible refine Below.drew ?_) | (with_reducible refine below_drewN ?_ _) | ((refine Below.trans ?_ (Below.mono (by with_reducible assumption) ?_)); rotate_left; · (first | omega | (simp; done) | (simp; omega) | (simp at *; omega)))))⟩
        simp [results, Try.results13, go_sem]
      · have hnn : ¬ L.length = 2 := by simpa using hneed
        clear hneed
        obtain ⟨n, hnl⟩ : ∃ n, n = L.length := ⟨_, rfl⟩
        rw [← hnl] at hnn ⊢
        clear hnl hL
        have t1 : ¬ (n : Int) = 2 := by omega
        go_enter Try.func13, Try.ntmps13
        obtain ⟨c0, c1, c2, c3, c4, c5, hl⟩ := HB.out.all
        dsimp only at c0 c1 c2 c3 c4 c5
        go_wp2_with fail
        refine (check_at (Sca.mk true signed swap mul div add) _ 0 HE.out).mono ?_
        rintro e w1 ⟨rfl, hb1⟩
        have HB2 := Lib.hid (show CB w w.heap.size (Sca.mk true signed swap mul div add) w1 from ⟨Blk.below HB.out.1 hb1 HB.out.1.lt, HB.out.2.trans (hb1.mono (by simp))⟩)
        clear c0 c1 c2 c3 c4 c5 hl hb1 HB
        obtain ⟨c0, c1, c2, c3, c4, c5, hl⟩ := HB2.out.all
        dsimp only at c0 c1 c2 c3 c4 c5
        have hbel := HB2.out.2
        go_wp2_with fail
        refine bodyPost_ret (v := .tuple #[.int .i64 0, .int .i64 22]) ?_ rfl ⟨rfl, by (repeat (first | (with_reducible assumption) | (with_reducible exact Below.refl _ _) | ((with_reducible refine Below.setCell ?_ ?_ _); rotate_left; · (first | omega | (simp; done) | (simp; omega) | (simp at *; omega))) | ((with_reducible refine Below.alloc ?_ ?_ _); rotate_left; · (first | omega | (simp; done) | (simp; omega) | (simp at *; omega))) | (with_reducible refine Below.drew ?_) | (with_reducible refine below_drewN ?_ _) | ((refine Below.trans ?_ (Below.mono (by with_reducible assumption) ?_)); rotate_left; · (first | omega | (simp; done) | (simp; omega) | (simp at *; omega)))))⟩
        simp [results, Try.results13, go_sem]
    · have hpos : 0 < L.length := by rw [hneed]; unfold Sca.need; split <;> omega
      obtain ⟨bb, off, rfl, hbb, hc⟩ := hA hpos
      have x0 := hc 0 hpos
      have ha := hL (L.getD 0 0) (by rw [List.getD_eq_getElem?_getD, List.getElem?_eq_getElem hpos]; simp)
      unfold RawBack
      rw [rawTo_right ho hneed, HCL.out]
      rw [Nat.add_zero] at x0
      obtain ⟨wide, signed, swap, mul, div, add⟩ := s
      cases wide
      · cases swap
        · have h1 : L.length = 1 := hneed
          rw [h1]
          cases signed
          · have := raw_FFF mul div add (L.getD 0 0) _ bb off cap w ho hbb x0 ha rfl
            simpa [rawN, Sca.many] using this
          · have := raw_FFT mul div add (L.getD 0 0) _ bb off cap w ho hbb x0 ha rfl
            simpa [rawN, Sca.many] using this
        · exact absurd (ho.2.2.2.2 rfl) (by simp)
      · have h2 : L.length = 2 := hneed
        have x1 := hc 1 (by omega)
        have hb := hL (L.getD 1 0) (by rw [List.getD_eq_getElem?_getD, List.getElem?_eq_getElem (show 1 < L.length by omega)]; simp)
        rw [h2]
        cases swap
        · cases signed
          · have := raw_TFF mul div add (L.getD 0 0) (L.getD 1 0) _ bb off cap w ho hbb x0 ha x1 hb rfl
            simpa [rawN, Sca.many] using this
          · have := raw_TFT mul div add (L.getD 0 0) (L.getD 1 0) _ bb off cap w ho hbb x0 ha x1 hb rfl
            simpa [rawN, Sca.many] using this
        · cases signed
          · have := raw_TTF mul div add (L.getD 0 0) (L.getD 1 0) _ bb off cap w ho hbb x0 ha x1 hb rfl
            simpa [rawN, Sca.many] using this
          · have := raw_TTT mul div add (L.getD 0 0) (L.getD 1 0) _ bb off cap w ho hbb x0 ha x1 hb rfl
            simpa [rawN, Sca.many] using this

set_option maxHeartbeats 1000000 in
theorem rraw_any (s : Sca) (A : Option Addr) (cap : Nat) (L : List Int) (w : World) (hA : IntsAt .u16 w A L) (hL : ∀ x ∈ L, U16 x) :
    Calls Try.prog 14 #[.agg s.cells, .slice A L.length cap] w (RawBack s L w) := by
  have HCL := Lib.hid (show s.cells = #[.bool s.wide, .bool s.signed, .bool s.swap, .int .i64 s.mul, .int .i64 s.div, .int .i64 s.add] from rfl)
  by_cases ho : s.Ok
  rotate_left
  · have HE := Lib.hid (show s.err = 25 from if_neg ho)
    have HV := Lib.hid (rawTo_bad (L := L) ho)
    have HB := Lib.hid (show CB w w.heap.size s (w.alloc (.cells #[.bool s.wide, .bool s.signed, .bool s.swap, .int .i64 s.mul, .int .i64 s.div, .int .i64 s.add] 23)) from ⟨Blk.new _ _ _, by (repeat (first | (with_reducible assumption) | (with_reducible exact Below.refl _ _) | ((with_reducible refine Below.setCell ?_ ?_ _); rotate_left; · (first | omega | (simp; done) | (simp; omega) | (simp at *; omega))) | ((with_reducible refine Below.alloc ?_ ?_ _); rotate_left; · (first | omega | (simp; done) | (simp; omega) | (simp at *; omega))) | (with_reducible refine Below.drew ?_) | (with_reducible refine below_drewN ?_ _) | ((refine Below.trans ?_ (Below.mono (by with_reducible assumption) ?_)); rotate_left; · (first | omega | (simp; done) | (simp; omega) | (simp at *; omega)))))⟩)
    rw [HCL.out]
    unfold RawBack
    rw [HV.out]
    clear ho hA
    go_enter Try.func14, Try.ntmps14
    obtain ⟨c0, c1, c2, c3, c4, c5, hl⟩ := HB.out.all
    go_wp2_with fail
    refine (rcheck_at s _ 25 HE.out).mono ?_
    rintro e w1 ⟨rfl, hb1⟩
    go_wp2_with fail
    refine bodyPost_ret (v := .tuple #[.int .i64 0, .int .i64 25]) ?_ rfl ⟨rfl, by (repeat (first | (with_reducible assumption) | (with_reducible exact Below.refl _ _) | ((with_reducible refine Below.setCell ?_ ?_ _); rotate_left; · (first | omega | (simp; done) | (simp; omega) | (simp at *; omega))) | ((with_reducible refine Below.alloc ?_ ?_ _); rotate_left; · (first | omega | (simp; done) | (simp; omega) | (simp at *; omega))) | (with_reducible refine Below.drew ?_) | (with_reducible refine below_drewN ?_ _) | ((refine Below.trans ?_ (Below.mono (by with_reducible assumption) ?_)); rotate_left; · (first | omega | (simp; done) | (simp; omega) | (simp at *; omega)))))⟩
    simp [results, Try.results14, go_sem]
  · by_cases hneed : L.length = s.need
    rotate_left
    · obtain ⟨wide, signed, swap, mul, div, add⟩ := s
      have HE := Lib.hid (show (Sca.mk wide signed swap mul div add).err = 0 from if_pos ho)
      have HV := Lib.hid (rawTo_len (L := L) ho hneed)
      have HB := Lib.hid (show CB w w.heap.size (Sca.mk wide signed swap mul div add) (w.alloc (.cells #[.bool wide, .bool signed, .bool swap, .int .i64 mul, .int .i64 div, .int .i64 add] 23)) from ⟨Blk.new _ _ _, by (repeat (first | (with_reducible assumption) | (with_reducible exact Below.refl _ _) | ((with_reducible refine Below.setCell ?_ ?_ _); rotate_left; · (first | omega | (simp; done) | (simp; omega) | (simp at *; omega))) | ((with_reducible refine Below.alloc ?_ ?_ _); rotate_left; · (first | omega | (simp; done) | (simp; omega) | (simp at *; omega))) | (with_reducible refine Below.drew ?_) | (with_reducible refine below_drewN ?_ _) | ((refine Below.trans ?_ (Below.mono (by with_reducible assumption) ?_)); rotate_left; · (first | omega | (simp; done) | (simp; omega) | (simp at *; omega)))))⟩)
      rw [HCL.out]
      unfold RawBack
      rw [HV.out]
      unfold Sca.need at hneed
      clear ho hA HCL HV
      cases wide
      · have hnn : ¬ L.length = 1 := by simpa using hneed
        clear hneed
        obtain ⟨n, hnl⟩ : ∃ n, n = L.length := ⟨_, rfl⟩
        rw [← hnl] at hnn ⊢
        clear hnl hL
        have t1 : ¬ (n : Int) = 1 := by omega
        go_enter Try.func14, Try.ntmps14
        obtain ⟨c0, c1, c2, c3, c4, c5, hl⟩ := HB.out.all
        dsimp only at c0 c1 c2 c3 c4 c5
        go_wp2_with fail
        refine (rcheck_at (Sca.mk false signed swap mul div add) _ 0 HE.out).mono ?_
        rintro e w1 ⟨rfl, hb1⟩
        have HB2 := Lib.hid (show CB w w.heap.size (Sca.mk false signed swap mul div add) w1 from ⟨Blk.below HB.out.1 hb1 HB.out.1.lt, HB.out.2.trans (hb1.mono (by simp))⟩)
        clear c0 c1 c2 c3 c4 c5 hl hb1 HB
        obtain ⟨c0, c1, c2, c3, c4, c5, hl⟩ := HB2.out.all
        dsimp only at c0 c1 c2 c3 c4 c5
        have hbel := HB2.out.2
        go_wp2_with fail
        refine bodyPost_ret (v := .tuple #[.int .i64 0, .int .i64 22]) ?_ rfl ⟨rfl, by (repeat (first | (with_reducible assumption) | (with_reducible exact Below.refl _ _) | ((with_reducible refine Below.setCell ?_ ?_ _); rotate_left; · (first | omega | (simp; done) | (simp; omega) | (simp at *; omega))) | ((with_reducible refine Below.alloc ?_ ?_ _); rotate_left; · (first | omega | (simp; done) | (simp; omega) | (simp at *; omega))) | (with_reducible refine Below.drew ?_) | (with_reducible refine below_drewN ?_ _) | ((refine Below.trans ?_ (Below.mono (by with_reducible assumption) ?_)); rotate_left; · (first | omega | (simp; done) | (simp; omega) | (simp at *; omega)))))⟩
        simp [results, Try.results14, go_sem]
      · have hnn : ¬ L.length = 2 := by simpa using hneed
        clear hneed
        obtain ⟨n, hnl⟩ : ∃ n, n = L.length := ⟨_, rfl⟩
        rw [← hnl] at hnn ⊢
        clear hnl hL
        have t1 : ¬ (n : Int) = 2 := by omega
        go_enter Try.func14, Try.ntmps14
        obtain ⟨c0, c1, c2, c3, c4, c5, hl⟩ := HB.out.all
        dsimp only at c0 c1 c2 c3 c4 c5
        go_wp2_with fail
        refine (rcheck_at (Sca.mk true signed swap mul div add) _ 0 HE.out).mono ?_
        rintro e w1 ⟨rfl, hb1⟩
        have HB2 := Lib.hid (show CB w w.heap.size (Sca.mk true signed swap mul div add) w1 from ⟨Blk.below HB.out.1 hb1 HB.out.1.lt, HB.out.2.trans (hb1.mono (by simp))⟩)
        clear c0 c1 c2 c3 c4 c5 hl hb1 HB
        obtain ⟨c0, c1, c2, c3, c4, c5, hl⟩ := HB2.out.all
        dsimp only at c0 c1 c2 c3 c4 c5
        have hbel := HB2.out.2
        go_wp2_with fail
        refine bodyPost_ret (v := .tuple #[.int .i64 0, .int .i64 22]) ?_ rfl ⟨rfl, by (repeat (first | (with_reducible assumption) | (with_reducible exact Below.refl _ _) | ((with_reducible refine Below.setCell ?_ ?_ _); rotate_left; · (first | omega | (simp; done) | (simp; omega) | (simp at *; omega))) | ((with_reducible refine Below.alloc ?_ ?_ _); rotate_left; · (first | omega | (simp; done) | (simp; omega) | (simp at *; omega))) | (with_reducible refine Below.drew ?_) | (with_reducible refine below_drewN ?_ _) | ((refine Below.trans ?_ (Below.mono (by with_reducible assumption) ?_)); rotate_left; · (first | omega | (simp; done) | (simp; omega) | (simp at *; omega)))))⟩
        simp [results, Try.results14, go_sem]
    · have hpos : 0 < L.length := by rw [hneed]; unfold Sca.need; split <;> omega
      obtain ⟨bb, off, rfl, hbb, hc⟩ := hA hpos
      have x0 := hc 0 hpos
      have ha := hL (L.getD 0 0) (by rw [List.getD_eq_getElem?_getD, List.getElem?_eq_getElem hpos]; simp)
      unfold RawBack
      rw [rawTo_right ho hneed, HCL.out]
      rw [Nat.add_zero] at x0
      obtain ⟨wide, signed, swap, mul, div, add⟩ := s
      cases wide
      · cases swap
        · have h1 : L.length = 1 := hneed
          rw [h1]
          cases signed
          · have := rraw_FFF mul div add (L.getD 0 0) _ bb off cap w ho hbb x0 ha rfl
            simpa [rawN, Sca.many] using this
          · have := rraw_FFT mul div add (L.getD 0 0) _ bb off cap w ho hbb x0 ha rfl
            simpa [rawN, Sca.many] using this
        · exact absurd (ho.2.2.2.2 rfl) (by simp)
      · have h2 : L.length = 2 := hneed
        have x1 := hc 1 (by omega)
        have hb := hL (L.getD 1 0) (by rw [List.getD_eq_getElem?_getD, List.getElem?_eq_getElem (show 1 < L.length by omega)]; simp)
        rw [h2]
        cases swap
        · cases signed
          · have := rraw_TFF mul div add (L.getD 0 0) (L.getD 1 0) _ bb off cap w ho hbb x0 ha x1 hb rfl
            simpa [rawN, Sca.many] using this
          · have := rraw_TFT mul div add (L.getD 0 0) (L.getD 1 0) _ bb off cap w ho hbb x0 ha x1 hb rfl
            simpa [rawN, Sca.many] using this
        · cases signed
          · have := rraw_TTF mul div add (L.getD 0 0) (L.getD 1 0) _ bb off cap w ho hbb x0 ha x1 hb rfl
            simpa [rawN, Sca.many] using this
          · have := rraw_TTT mul div add (L.getD 0 0) (L.getD 1 0) _ bb off cap w ho hbb x0 ha x1 hb rfl
            simpa [rawN, Sca.many] using this

end Go.Proofs.Ytbfdecfdmigoiaa
