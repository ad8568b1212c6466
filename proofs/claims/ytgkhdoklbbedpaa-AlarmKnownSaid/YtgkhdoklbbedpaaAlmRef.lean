/-
  What is proved here: what the reference's Step and both Acks answer (chapter 8). Conditions: none beyond each theorem's own.
-/
import Derived.Test.YtgkhdoklbbedpaaAlmStep2
namespace Go.Proofs.Ytgkhdoklbbedpaa
open Go.RowKit Go.Deep

theorem step_any (l : Lim) (a : Alm) (v : Int) (w : World) :
    Calls Try.prog 10 #[.agg l.cells, .agg a.cells, .int .i64 v] w (StepBack w (stepTo l a v)) := by
  by_cases h : l.Ok ∧ a.Fine
  · exact step_yes l a v w h.1 h.2
  · exact step_no l a v w h

/-- is a value back from a state? -/
def bck (l : Lim) (st v : Int) : Bool := if st = 1 then l.back1 v else decide (st = 2) && l.back2 v
theorem back_any (l : Lim) (st v : Int) (w : World) (ho : l.Ok) :
    Calls Try.prog 23 #[.agg l.cells, .int .i64 st, .int .i64 v] w fun e w' => e = .returned (.bool (bck l st v)) ∧ Below w.heap.size w w' := by
  obtain ⟨b1, b2, b3, b4⟩ := ok_bounds ho
  have y1 := ho.1
  have y2 := ho.2.1
  have HB1 := Lib.hid (show l.back1 v = (!l.ul || decide (l.lo + l.hy < v)) from rfl)
  have HB2 := Lib.hid (show l.back2 v = (!l.uh || decide (v < l.hi - l.hy)) from rfl)
  unfold Lim.cells
  clear ho
  by_cases h1 : st = 1
  · have HD := Lib.hid (show bck l st v = l.back1 v from if_pos h1)
    have n1 : (st == 1) = true := by rw [beq_iff_eq]; exact h1
    clear h1
    rcases two_bools l.ul with h | h
    all_goals
      have HU := Lib.hid h
      rw [h]
      clear h
      go_enter Try.func23, Try.ntmps23
      go_wp2
      go_ret
      exact ⟨ret_bool (by rw [HD.out, HB1.out, HU.out]; simp), by (repeat (first | (with_reducible assumption) | (with_reducible exact Below.refl _ _) | ((with_reducible refine Below.setCell ?_ ?_ _); rotate_left; · (first | omega | (simp; done) | (simp; omega) | (simp at *; omega))) | ((with_reducible refine Below.alloc ?_ ?_ _); rotate_left; · (first | omega | (simp; done) | (simp; omega) | (simp at *; omega))) | (with_reducible refine Below.drew ?_) | (with_reducible refine below_drewN ?_ _) | ((refine Below.trans ?_ (Below.mono (by with_reducible assumption) ?_)); rotate_left; · (first | omega | (simp; done) | (simp; omega) | (simp at *; omega)))))⟩
  · have n1 : (st == 1) = false := by rw [beq_eq_false_iff_ne]; exact h1
    by_cases h2 : st = 2
    · have HD := Lib.hid (show bck l st v = l.back2 v by unfold bck; rw [if_neg h1, decide_eq_true h2]; simp)
      have n2 : (st == 2) = true := by rw [beq_iff_eq]; exact h2
      clear h1 h2
      rcases two_bools l.uh with h | h
      all_goals
        have HU := Lib.hid h
        rw [h]
        clear h
        go_enter Try.func23, Try.ntmps23
        go_wp2
        go_ret
        exact ⟨ret_bool (by rw [HD.out, HB2.out, HU.out]; simp), by (repeat (first | (with_reducible assumption) | (with_reducible exact Below.refl _ _) | ((with_reducible refine Below.setCell ?_ ?_ _); rotate_left; · (first | omega | (simp; done) | (simp; omega) | (simp at *; omega))) | ((with_reducible refine Below.alloc ?_ ?_ _); rotate_left; · (first | omega | (simp; done) | (simp; omega) | (simp at *; omega))) | (with_reducible refine Below.drew ?_) | (with_reducible refine below_drewN ?_ _) | ((refine Below.trans ?_ (Below.mono (by with_reducible assumption) ?_)); rotate_left; · (first | omega | (simp; done) | (simp; omega) | (simp at *; omega)))))⟩
    · have HD := Lib.hid (show bck l st v = false by unfold bck; rw [if_neg h1, decide_eq_false h2]; simp)
      have n2 : (st == 2) = false := by rw [beq_eq_false_iff_ne]; exact h2
      clear h1 h2
      go_enter Try.func23, Try.ntmps23
      go_wp2
      go_ret
      exact ⟨ret_bool HD.out.symm, by (repeat (first | (with_reducible assumption) | (with_reducible exact Below.refl _ _) | ((with_reducible refine Below.setCell ?_ ?_ _); rotate_left; · (first | omega | (simp; done) | (simp; omega) | (simp at *; omega))) | ((with_reducible refine Below.alloc ?_ ?_ _); rotate_left; · (first | omega | (simp; done) | (simp; omega) | (simp at *; omega))) | (with_reducible refine Below.drew ?_) | (with_reducible refine below_drewN ?_ _) | ((refine Below.trans ?_ (Below.mono (by with_reducible assumption) ?_)); rotate_left; · (first | omega | (simp; done) | (simp; omega) | (simp at *; omega)))))⟩

/-- the reference's walk holds on to the limits, the alarm and the answer's cells. -/
def Ref (w : World) (l : Lim) (a : Alm) (wr : World) : Prop :=
  LB wr w.heap.size l ∧ Blk wr (w.heap.size + 1) 25 a.cells ∧ Blk wr (w.heap.size + 1 + 1) 25 #[.int .i64 0, .bool false] ∧ Below w.heap.size w wr
theorem Ref.below {w wr w' : World} {l : Lim} {a : Alm} (h : Ref w l a wr) (hb : Below wr.heap.size wr w') : Ref w l a w' :=
  ⟨Blk.below h.1 hb h.1.lt, Blk.below h.2.1 hb h.2.1.lt, Blk.below h.2.2.1 hb h.2.2.1.lt, h.2.2.2.trans (hb.mono h.2.2.2.size)⟩
theorem Ref.facts {w wr : World} {l : Lim} {a : Alm} (h : Ref w l a wr) :
    (wr.cell? ⟨w.heap.size, 0, none⟩ = some (.bool l.ul) ∧ wr.cell? ⟨w.heap.size, 1, none⟩ = some (.bool l.uh) ∧ wr.cell? ⟨w.heap.size, 2, none⟩ = some (.bool l.la) ∧ wr.cell? ⟨w.heap.size, 3, none⟩ = some (.int .i64 l.lo) ∧ wr.cell? ⟨w.heap.size, 4, none⟩ = some (.int .i64 l.hi) ∧ wr.cell? ⟨w.heap.size, 5, none⟩ = some (.int .i64 l.hy)) ∧
    (wr.cell? ⟨w.heap.size + 1, 0, none⟩ = some (.int .i64 a.st) ∧ wr.cell? ⟨w.heap.size + 1, 1, none⟩ = some (.bool a.wt)) ∧
    (wr.cell? ⟨w.heap.size + 1 + 1, 0, none⟩ = some (.int .i64 0) ∧ wr.cell? ⟨w.heap.size + 1 + 1, 1, none⟩ = some (.bool false) ∧ wr.frozen? ⟨w.heap.size + 1 + 1, 0, none⟩ = false ∧ wr.frozen? ⟨w.heap.size + 1 + 1, 1, none⟩ = false) ∧
    w.heap.size < wr.heap.size ∧ w.heap.size + 1 < wr.heap.size ∧ w.heap.size + 1 + 1 < wr.heap.size :=
  ⟨h.1.all, ⟨h.2.1.cell 0, h.2.1.cell 1⟩, h.2.2.1.two, h.1.lt, h.2.1.lt, h.2.2.1.lt⟩
theorem ref_start (w : World) (l : Lim) (a : Alm) : Ref w l a (((w.alloc (.cells l.cells 23)).alloc (.cells a.cells 25)).alloc (.cells #[.int .i64 0, .bool false] 25)) := by
  have h1 := Blk.new (w.alloc (.cells l.cells 23)) 25 a.cells
  have h2 := Blk.new ((w.alloc (.cells l.cells 23)).alloc (.cells a.cells 25)) 25 #[.int .i64 0, .bool false]
  simp only [World.size_alloc] at h1 h2
  exact ⟨((Blk.new w 23 l.cells).alloc _).alloc _, h1.alloc _, h2, by (repeat (first | (with_reducible assumption) | (with_reducible exact Below.refl _ _) | ((with_reducible refine Below.setCell ?_ ?_ _); rotate_left; · (first | omega | (simp; done) | (simp; omega) | (simp at *; omega))) | ((with_reducible refine Below.alloc ?_ ?_ _); rotate_left; · (first | omega | (simp; done) | (simp; omega) | (simp at *; omega))) | (with_reducible refine Below.drew ?_) | (with_reducible refine below_drewN ?_ _) | ((refine Below.trans ?_ (Below.mono (by with_reducible assumption) ?_)); rotate_left; · (first | omega | (simp; done) | (simp; omega) | (simp at *; omega)))))⟩

set_option maxRecDepth 100000 in
set_option maxHeartbeats 4000000 in
theorem rstep_any (l : Lim) (a : Alm) (v : Int) (w : World) :
    Calls Try.prog 14 #[.agg l.cells, .agg a.cells, .int .i64 v] w (StepBack w (stepTo l a v)) := by
  have HR0 := Lib.hid (ref_start w l a)
  have HCK := Lib.hid (fun W => rcheck_any l W)
  have HLO := Lib.hid (fun W => islow_any l v W)
  have HHI := Lib.hid (fun W => ishigh_any l v W)
  have HBK := Lib.hid (fun ho W => back_any l a.st v W ho)
  have HCL := Lib.hid (show l.cells = #[.bool l.ul, .bool l.uh, .bool l.la, .int .i64 l.lo, .int .i64 l.hi, .int .i64 l.hy] from rfl)
  have HAC := Lib.hid (show a.cells = #[.int .i64 a.st, .bool a.wt] from rfl)
  rw [HCL.out, HAC.out] at HR0
  rw [HCL.out] at HCK HLO HHI HBK ⊢
  rw [HAC.out]
  by_cases hof : l.Ok ∧ a.Fine
  rotate_left
  · have HE := Lib.hid (step_bad (v := v) hof)
    have hc : ¬ l.Ok ∨ (l.Ok ∧ (a.st ≠ 0 ∧ a.st ≠ 1 ∧ a.st ≠ 2)) := by
      by_cases ho : l.Ok
      · right
        refine ⟨ho, ?_⟩
        have hf : ¬ a.Fine := fun x => hof ⟨ho, x⟩
        unfold Alm.Fine at hf
        omega
      · exact .inl ho
    clear hof
    rcases hc with ho | ⟨ho, h1, h2, h3⟩
    · have hx : (l.err != 0) = true := by unfold Lim.err; rw [if_neg ho]; rfl
      clear ho
      go_enter Try.func14, Try.ntmps14
      go_wp2_with fail
      refine (HCK.out _).mono ?_
      rintro e w1 ⟨rfl, hb1⟩
      have HR := Lib.hid (HR0.out.below hb1)
      obtain ⟨⟨c0, c1, c2, c3, c4, c5⟩, ⟨a0, a1⟩, ⟨d0, d1, d2, d3⟩, l0, l1, l2⟩ := HR.out.facts
      clear hb1
      go_wp2_with fail
      refine bodyPost_ret (v := .tuple #[.agg #[.int .i64 a.st, .bool a.wt], .int .i64 0]) ?_ ?_ ?_
      · simp [results, Try.results14, go_sem, d0, d1]
      · rfl
      · exact ⟨by rw [HE.out]; rfl, by have hbz := HR.out.2.2.2; (repeat (first | (with_reducible assumption) | (with_reducible exact Below.refl _ _) | ((with_reducible refine Below.setCell ?_ ?_ _); rotate_left; · (first | omega | (simp; done) | (simp; omega) | (simp at *; omega))) | ((with_reducible refine Below.alloc ?_ ?_ _); rotate_left; · (first | omega | (simp; done) | (simp; omega) | (simp at *; omega))) | (with_reducible refine Below.drew ?_) | (with_reducible refine below_drewN ?_ _) | ((refine Below.trans ?_ (Below.mono (by with_reducible assumption) ?_)); rotate_left; · (first | omega | (simp; done) | (simp; omega) | (simp at *; omega)))))⟩
    · have hx : (l.err != 0) = false := by unfold Lim.err; rw [if_pos ho]; rfl
      have n0 : (a.st != 0) = true := by rw [bne_iff_ne]; exact h1
      have n1 : (a.st != 1) = true := by rw [bne_iff_ne]; exact h2
      have n2 : (a.st != 2) = true := by rw [bne_iff_ne]; exact h3
      clear ho h1 h2 h3
      go_enter Try.func14, Try.ntmps14
      go_wp2_with fail
      refine (HCK.out _).mono ?_
      rintro e w1 ⟨rfl, hb1⟩
      have HR := Lib.hid (HR0.out.below hb1)
      obtain ⟨⟨c0, c1, c2, c3, c4, c5⟩, ⟨a0, a1⟩, ⟨d0, d1, d2, d3⟩, l0, l1, l2⟩ := HR.out.facts
      clear hb1
      go_wp2_with fail
      refine bodyPost_ret (v := .tuple #[.agg #[.int .i64 a.st, .bool a.wt], .int .i64 0]) ?_ ?_ ?_
      · simp [results, Try.results14, go_sem, d0, d1]
      · rfl
      · exact ⟨by rw [HE.out]; rfl, by have hbz := HR.out.2.2.2; (repeat (first | (with_reducible assumption) | (with_reducible exact Below.refl _ _) | ((with_reducible refine Below.setCell ?_ ?_ _); rotate_left; · (first | omega | (simp; done) | (simp; omega) | (simp at *; omega))) | ((with_reducible refine Below.alloc ?_ ?_ _); rotate_left; · (first | omega | (simp; done) | (simp; omega) | (simp at *; omega))) | (with_reducible refine Below.drew ?_) | (with_reducible refine below_drewN ?_ _) | ((refine Below.trans ?_ (Below.mono (by with_reducible assumption) ?_)); rotate_left; · (first | omega | (simp; done) | (simp; omega) | (simp at *; omega)))))⟩
  have HST := Lib.hid (show stepTo l a v = (if l.low v = true then (if a.st = 1 then (a, 0) else (⟨1, true⟩, 1)) else if l.high v = true then (if a.st = 2 then (a, 0) else (⟨2, true⟩, 2)) else if ((a.st = 1 ∧ l.back1 v = true) ∨ (a.st = 2 ∧ l.back2 v = true)) ∧ ¬ (l.la = true ∧ a.wt = true) then (⟨0, a.wt⟩, 3) else (a, 0)) by unfold stepTo; rw [if_pos hof])
  have hx : (l.err != 0) = false := by unfold Lim.err; rw [if_pos hof.1]; rfl
  have HOK := Lib.hid hof.1
  have hst : (a.st = 0 ∨ a.st = 1 ∨ a.st = 2) := by have := hof.2; unfold Alm.Fine at this; omega
  have HBQ := Lib.hid (show (bck l a.st v = true ↔ ((a.st = 1 ∧ l.back1 v = true) ∨ (a.st = 2 ∧ l.back2 v = true))) by
    unfold bck
    by_cases h1 : a.st = 1
    · rw [if_pos h1]; simp [h1]
    · rw [if_neg h1]; simp [h1])
  clear hof
  rcases hst with hs | hs | hs
  all_goals
    have HS := Lib.hid hs
    first
      | (have n0 : (a.st != 0) = false := by rw [bne_eq_false_iff_eq]; exact hs)
      | (have n0 : (a.st != 0) = true := by rw [bne_iff_ne]; omega)
    first
      | (have n1 : (a.st != 1) = false := by rw [bne_eq_false_iff_eq]; exact hs)
      | (have n1 : (a.st != 1) = true := by rw [bne_iff_ne]; omega)
    first
      | (have n2 : (a.st != 2) = false := by rw [bne_eq_false_iff_eq]; exact hs)
      | (have n2 : (a.st != 2) = true := by rw [bne_iff_ne]; omega)
    first
      | (have m1 : (a.st == 1) = true := by rw [beq_iff_eq]; exact hs)
      | (have m1 : (a.st == 1) = false := by rw [beq_eq_false_iff_ne]; omega)
    first
      | (have m2 : (a.st == 2) = true := by rw [beq_iff_eq]; exact hs)
      | (have m2 : (a.st == 2) = false := by rw [beq_eq_false_iff_ne]; omega)
    clear hs
    go_enter Try.func14, Try.ntmps14
    go_wp2_with fail
    refine (HCK.out _).mono ?_
    rintro e w1 ⟨rfl, hb1⟩
    have HR1 := Lib.hid (HR0.out.below hb1)
    obtain ⟨⟨c0, c1, c2, c3, c4, c5⟩, ⟨a0, a1⟩, ⟨d0, d1, d2, d3⟩, l0, l1, l2⟩ := HR1.out.facts
    clear hb1
    go_wp2_with fail
    refine (HLO.out _).mono ?_
    rintro e w2 ⟨rfl, hb2⟩
    have HR2 := Lib.hid (HR1.out.below hb2)
    clear hb2 c0 c1 c2 c3 c4 c5 a0 a1 d0 d1 d2 d3 l0 l1 l2
    obtain ⟨⟨c0, c1, c2, c3, c4, c5⟩, ⟨a0, a1⟩, ⟨d0, d1, d2, d3⟩, l0, l1, l2⟩ := HR2.out.facts
    rcases two_bools (l.low v) with hlow | hlow
    · have HE := Lib.hid (show stepTo l a v = if a.st = 1 then (a, 0) else (⟨1, true⟩, 1) by rw [HST.out, if_pos hlow])
      rw [hlow]
      clear hlow
      go_wp2_with fail
      first
        | (refine bodyPost_ret (v := .tuple #[.agg #[.int .i64 a.st, .bool a.wt], .int .i64 0]) ?_ rfl ⟨by rw [HE.out, if_pos HS.out]; rfl, by have hbz := HR2.out.2.2.2; (repeat (first | (with_reducible assumption) | (with_reducible exact Below.refl _ _) | ((with_reducible refine Below.setCell ?_ ?_ _); rotate_left; · (first | omega | (simp; done) | (simp; omega) | (simp at *; omega))) | ((with_reducible refine Below.alloc ?_ ?_ _); rotate_left; · (first | omega | (simp; done) | (simp; omega) | (simp at *; omega))) | (with_reducible refine Below.drew ?_) | (with_reducible refine below_drewN ?_ _) | ((refine Below.trans ?_ (Below.mono (by with_reducible assumption) ?_)); rotate_left; · (first | omega | (simp; done) | (simp; omega) | (simp at *; omega)))))⟩; simp [results, Try.results14, go_sem, d0, d1]; done)
        | (refine bodyPost_ret (v := .tuple #[.agg #[.int .i64 1, .bool true], .int .i64 1]) ?_ rfl ⟨by rw [HE.out, if_neg (by have := HS.out; omega)]; rfl, by have hbz := HR2.out.2.2.2; (repeat (first | (with_reducible assumption) | (with_reducible exact Below.refl _ _) | ((with_reducible refine Below.setCell ?_ ?_ _); rotate_left; · (first | omega | (simp; done) | (simp; omega) | (simp at *; omega))) | ((with_reducible refine Below.alloc ?_ ?_ _); rotate_left; · (first | omega | (simp; done) | (simp; omega) | (simp at *; omega))) | (with_reducible refine Below.drew ?_) | (with_reducible refine below_drewN ?_ _) | ((refine Below.trans ?_ (Below.mono (by with_reducible assumption) ?_)); rotate_left; · (first | omega | (simp; done) | (simp; omega) | (simp at *; omega)))))⟩; simp [results, Try.results14, go_sem, d0, d1]; done)
    · have HLW := Lib.hid hlow
      rw [hlow]
      clear hlow
      go_wp2_with fail
      refine (HHI.out _).mono ?_
      rintro e w3 ⟨rfl, hb3⟩
      have HR3 := Lib.hid (HR2.out.below hb3)
      clear hb3 c0 c1 c2 c3 c4 c5 a0 a1 d0 d1 d2 d3 l0 l1 l2
      obtain ⟨⟨c0, c1, c2, c3, c4, c5⟩, ⟨a0, a1⟩, ⟨d0, d1, d2, d3⟩, l0, l1, l2⟩ := HR3.out.facts
      rcases two_bools (l.high v) with hhigh | hhigh
      · have HE := Lib.hid (show stepTo l a v = if a.st = 2 then (a, 0) else (⟨2, true⟩, 2) by rw [HST.out, if_neg (by rw [HLW.out]; simp), if_pos hhigh])
        rw [hhigh]
        clear hhigh
        go_wp2_with fail
        first
          | (refine bodyPost_ret (v := .tuple #[.agg #[.int .i64 a.st, .bool a.wt], .int .i64 0]) ?_ rfl ⟨by rw [HE.out, if_pos HS.out]; rfl, by have hbz := HR3.out.2.2.2; (repeat (first | (with_reducible assumption) | (with_reducible exact Below.refl _ _) | ((with_reducible refine Below.setCell ?_ ?_ _); rotate_left; · (first | omega | (simp; done) | (simp; omega) | (simp at *; omega))) | ((with_reducible refine Below.alloc ?_ ?_ _); rotate_left; · (first | omega | (simp; done) | (simp; omega) | (simp at *; omega))) | (with_reducible refine Below.drew ?_) | (with_reducible refine below_drewN ?_ _) | ((refine Below.trans ?_ (Below.mono (by with_reducible assumption) ?_)); rotate_left; · (first | omega | (simp; done) | (simp; omega) | (simp at *; omega)))))⟩; simp [results, Try.results14, go_sem, d0, d1]; done)
          | (refine bodyPost_ret (v := .tuple #[.agg #[.int .i64 2, .bool true], .int .i64 2]) ?_ rfl ⟨by rw [HE.out, if_neg (by have := HS.out; omega)]; rfl, by have hbz := HR3.out.2.2.2; (repeat (first | (with_reducible assumption) | (with_reducible exact Below.refl _ _) | ((with_reducible refine Below.setCell ?_ ?_ _); rotate_left; · (first | omega | (simp; done) | (simp; omega) | (simp at *; omega))) | ((with_reducible refine Below.alloc ?_ ?_ _); rotate_left; · (first | omega | (simp; done) | (simp; omega) | (simp at *; omega))) | (with_reducible refine Below.drew ?_) | (with_reducible refine below_drewN ?_ _) | ((refine Below.trans ?_ (Below.mono (by with_reducible assumption) ?_)); rotate_left; · (first | omega | (simp; done) | (simp; omega) | (simp at *; omega)))))⟩; simp [results, Try.results14, go_sem, d0, d1]; done)
      · have HE := Lib.hid (show stepTo l a v = if bck l a.st v = true ∧ ¬ (l.la = true ∧ a.wt = true) then (⟨0, a.wt⟩, 3) else (a, 0) by
          rw [HST.out, if_neg (by rw [HLW.out]; simp), if_neg (by rw [hhigh]; simp)]
          simp only [HBQ.out])
        rw [hhigh]
        clear hhigh
        go_wp2_with fail
        refine (HBK.out HOK.out _).mono ?_
        rintro e w4 ⟨rfl, hb4⟩
        have HR4 := Lib.hid (HR3.out.below hb4)
        clear hb4 c0 c1 c2 c3 c4 c5 a0 a1 d0 d1 d2 d3 l0 l1 l2
        obtain ⟨⟨c0, c1, c2, c3, c4, c5⟩, ⟨a0, a1⟩, ⟨d0, d1, d2, d3⟩, l0, l1, l2⟩ := HR4.out.facts
        rcases two_bools (bck l a.st v) with hb | hb
        · rcases two_bools l.la with hla | hla
          · rcases two_bools a.wt with hwt | hwt
            · have HQ := Lib.hid (show stepTo l a v = (a, 0) by rw [HE.out, if_neg (fun h => h.2 ⟨hla, hwt⟩)])
              have HW := Lib.hid hwt
              rw [hb]
              rw [hla] at c2
              rw [hwt] at a1
              clear hb hla hwt
              go_wp2_with fail
              refine bodyPost_ret (v := .tuple #[.agg #[.int .i64 a.st, .bool true], .int .i64 0]) ?_ rfl ⟨by rw [HQ.out]; unfold Alm.cells; rw [HW.out], by have hbz := HR4.out.2.2.2; (repeat (first | (with_reducible assumption) | (with_reducible exact Below.refl _ _) | ((with_reducible refine Below.setCell ?_ ?_ _); rotate_left; · (first | omega | (simp; done) | (simp; omega) | (simp at *; omega))) | ((with_reducible refine Below.alloc ?_ ?_ _); rotate_left; · (first | omega | (simp; done) | (simp; omega) | (simp at *; omega))) | (with_reducible refine Below.drew ?_) | (with_reducible refine below_drewN ?_ _) | ((refine Below.trans ?_ (Below.mono (by with_reducible assumption) ?_)); rotate_left; · (first | omega | (simp; done) | (simp; omega) | (simp at *; omega)))))⟩
              simp [results, Try.results14, go_sem, d0, d1]
            · have HQ := Lib.hid (show stepTo l a v = (⟨0, a.wt⟩, 3) by rw [HE.out, if_pos ⟨hb, fun h => by rw [hwt] at h; cases h.2⟩])
              have HW := Lib.hid hwt
              rw [hb]
              rw [hla] at c2
              rw [hwt] at a1
              clear hb hla hwt
              go_wp2_with fail
              refine bodyPost_ret (v := .tuple #[.agg #[.int .i64 0, .bool false], .int .i64 3]) ?_ rfl ⟨by rw [HQ.out, HW.out]; rfl, by have hbz := HR4.out.2.2.2; (repeat (first | (with_reducible assumption) | (with_reducible exact Below.refl _ _) | ((with_reducible refine Below.setCell ?_ ?_ _); rotate_left; · (first | omega | (simp; done) | (simp; omega) | (simp at *; omega))) | ((with_reducible refine Below.alloc ?_ ?_ _); rotate_left; · (first | omega | (simp; done) | (simp; omega) | (simp at *; omega))) | (with_reducible refine Below.drew ?_) | (with_reducible refine below_drewN ?_ _) | ((refine Below.trans ?_ (Below.mono (by with_reducible assumption) ?_)); rotate_left; · (first | omega | (simp; done) | (simp; omega) | (simp at *; omega)))))⟩
              simp [results, Try.results14, go_sem, d0, d1]
          · have HQ := Lib.hid (show stepTo l a v = (⟨0, a.wt⟩, 3) by rw [HE.out, if_pos ⟨hb, fun h => by rw [hla] at h; cases h.1⟩])
            rw [hb]
            rw [hla] at c2
            clear hb hla
            go_wp2_with fail
            refine bodyPost_ret (v := .tuple #[.agg #[.int .i64 0, .bool a.wt], .int .i64 3]) ?_ rfl ⟨by rw [HQ.out]; rfl, by have hbz := HR4.out.2.2.2; (repeat (first | (with_reducible assumption) | (with_reducible exact Below.refl _ _) | ((with_reducible refine Below.setCell ?_ ?_ _); rotate_left; · (first | omega | (simp; done) | (simp; omega) | (simp at *; omega))) | ((with_reducible refine Below.alloc ?_ ?_ _); rotate_left; · (first | omega | (simp; done) | (simp; omega) | (simp at *; omega))) | (with_reducible refine Below.drew ?_) | (with_reducible refine below_drewN ?_ _) | ((refine Below.trans ?_ (Below.mono (by with_reducible assumption) ?_)); rotate_left; · (first | omega | (simp; done) | (simp; omega) | (simp at *; omega)))))⟩
            simp [results, Try.results14, go_sem, d0, d1]
        · have HQ := Lib.hid (show stepTo l a v = (a, 0) by rw [HE.out, if_neg (fun h => by rw [hb] at h; cases h.1)])
          rw [hb]
          clear hb
          go_wp2_with fail
          refine bodyPost_ret (v := .tuple #[.agg #[.int .i64 a.st, .bool a.wt], .int .i64 0]) ?_ rfl ⟨by rw [HQ.out]; rfl, by have hbz := HR4.out.2.2.2; (repeat (first | (with_reducible assumption) | (with_reducible exact Below.refl _ _) | ((with_reducible refine Below.setCell ?_ ?_ _); rotate_left; · (first | omega | (simp; done) | (simp; omega) | (simp at *; omega))) | ((with_reducible refine Below.alloc ?_ ?_ _); rotate_left; · (first | omega | (simp; done) | (simp; omega) | (simp at *; omega))) | (with_reducible refine Below.drew ?_) | (with_reducible refine below_drewN ?_ _) | ((refine Below.trans ?_ (Below.mono (by with_reducible assumption) ?_)); rotate_left; · (first | omega | (simp; done) | (simp; omega) | (simp at *; omega)))))⟩
          simp [results, Try.results14, go_sem, d0, d1]

/-- what comes back of an acknowledgement. -/
def AckBack (w : World) (a : Alm) (e : Ending) (w' : World) : Prop := e = .returned (.tuple #[.agg (ackTo a).cells, .bool a.wt]) ∧ Below w.heap.size w w'
theorem ack_any (a : Alm) (w : World) :
    Calls Try.prog 15 #[.agg a.cells] w (AckBack w a) := by
  unfold Alm.cells
  go_enter Try.func15, Try.ntmps15
  go_wp2
  go_region
  go_wp2
  refine bodyPost_ret (v := .tuple #[.agg #[.int .i64 a.st, .bool false], .bool a.wt]) ?_ ?_ ?_
  · simp [results, Try.results15, go_sem]
  · rfl
  · exact ⟨rfl, by (repeat (first | (with_reducible assumption) | (with_reducible exact Below.refl _ _) | ((with_reducible refine Below.setCell ?_ ?_ _); rotate_left; · (first | omega | (simp; done) | (simp; omega) | (simp at *; omega))) | ((with_reducible refine Below.alloc ?_ ?_ _); rotate_left; · (first | omega | (simp; done) | (simp; omega) | (simp at *; omega))) | (with_reducible refine Below.drew ?_) | (with_reducible refine below_drewN ?_ _) | ((refine Below.trans ?_ (Below.mono (by with_reducible assumption) ?_)); rotate_left; · (first | omega | (simp; done) | (simp; omega) | (simp at *; omega)))))⟩
theorem rack_any (a : Alm) (w : World) :
    Calls Try.prog 16 #[.agg a.cells] w (AckBack w a) := by
  unfold Alm.cells
  rcases two_bools a.wt with h | h
  all_goals
    have HD := Lib.hid h
    rw [h]
    clear h
    go_enter Try.func16, Try.ntmps16
    go_wp2
    first
      | (refine bodyPost_ret (v := .tuple #[.agg #[.int .i64 a.st, .bool false], .bool true]) ?_ rfl ⟨by rw [HD.out]; rfl, by (repeat (first | (with_reducible assumption) | (with_reducible exact Below.refl _ _) | ((with_reducible refine Below.setCell ?_ ?_ _); rotate_left; · (first | omega | (simp; done) | (simp; omega) | (simp at *; omega))) | ((with_reducible refine Below.alloc ?_ ?_ _); rotate_left; · (first | omega | (simp; done) | (simp; omega) | (simp at *; omega))) | (with_reducible refine Below.drew ?_) | (with_reducible refine below_drewN ?_ _) | ((refine Below.trans ?_ (Below.mono (by with_reducible assumption) ?_)); rotate_left; · (first | omega | (simp; done) | (simp; omega) | (simp at *; omega)))))⟩; simp [results, Try.results16, go_sem]; done)
      | (refine bodyPost_ret (v := .tuple #[.agg #[.int .i64 a.st, .bool false], .bool false]) ?_ rfl ⟨by rw [HD.out]; rfl, by (repeat (first | (with_reducible assumption) | (with_reducible exact Below.refl _ _) | ((with_reducible refine Below.setCell ?_ ?_ _); rotate_left; · (first | omega | (simp; done) | (simp; omega) | (simp at *; omega))) | ((with_reducible refine Below.alloc ?_ ?_ _); rotate_left; · (first | omega | (simp; done) | (simp; omega) | (simp at *; omega))) | (with_reducible refine Below.drew ?_) | (with_reducible refine below_drewN ?_ _) | ((refine Below.trans ?_ (Below.mono (by with_reducible assumption) ?_)); rotate_left; · (first | omega | (simp; done) | (simp; omega) | (simp at *; omega)))))⟩; simp [results, Try.results16, go_sem]; done)
end Go.Proofs.Ytgkhdoklbbedpaa
