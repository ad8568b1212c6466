/-
  What is proved here: what comes in, the laws' own example (works), and alarms held against each other (chapter 8). Conditions: none beyond each theorem's own.
-/
import Derived.Test.YtgkhdoklbbedpaaAlmRef
import Derived.RegionTactic
namespace Go.Proofs.Ytgkhdoklbbedpaa
open Go.ChangeShapes Go.WideShapes Go.ChangeAt Go.RowKit Go.Deep Go.Joins

section
variable {H : Type} {enc : TypeId × Value → H} {P : Program} {w : World} {base : Nat} {spare : Nat → Bool} {held : Bool}
/-- A struct by value, each field of one cell: its cells, and how they read. -/
theorem open_agg_fields {r : Reach} {b0 : Nat} {t : TypeId} {fs : Array Field} {v : Value} {d : DataW H} {p : List MemPlace} (hs : P.underlying t = some (.struct fs)) (hone : oneCellFields P fs = true) (hC : P.cellsOf t = fs.size)
    (hv : Value.okWide P w r b0 t v) (h : DataW.Trod enc P w base spare held t v d p) :
    ∃ (cs : Array Value) (n : Nat), v = .agg cs ∧ cs.size = fs.size ∧ ∀ (j : Nat) (f : Field), fs[j]? = some f → ∃ (u : Value) (y : DataW H × List MemPlace), cs[j]? = some u ∧ DataW.trod enc P w base spare held n f.type [u] = some y := by
  obtain ⟨cs, rfl, hsz⟩ := okWide_struct hs hv
  obtain ⟨fuel, hf⟩ := h
  obtain ⟨ys, n, hn, hy, hlen, hyl, hg⟩ := DataW.trod_struct hs hf
  refine ⟨cs, n, rfl, hsz.trans hC, fun j f hj => ?_⟩
  obtain ⟨ho, hk⟩ := hone_of hone j f hj
  have hjl : j < fs.size := (Array.getElem?_eq_some_iff.1 hj).1
  have hjc : j < cs.size := by rw [hsz, hC]; exact hjl
  have h1 := hg j f hj
  rw [ho, hk] at h1
  have e : ((Value.agg cs).cells.toList.drop j).take 1 = [cs[j]] := by
    show (cs.toList.drop j).take 1 = _
    rw [List.drop_eq_getElem_cons (by simpa using hjc)]
    simp
  rw [e] at h1
  have hys : ys[j]? = some (ys[j]'(by omega)) := List.getElem?_eq_getElem (by omega)
  exact ⟨cs[j], _, Array.getElem?_eq_getElem hjc, h1.trans hys⟩
end

theorem limC : Try.prog.cellsOf 23 = 6 := by kernel_rfl
theorem almC : Try.prog.cellsOf 25 = 2 := by kernel_rfl
theorem open_lim {H : Type} {enc : TypeId × Value → H} {W : World} {b0 : Nat} {v : Value} {d : DataW H} {p : List MemPlace}
    (hv : Value.okWide Try.prog W .any b0 23 v) (h : DataW.Trod enc Try.prog W 0 (fun _ => true) true 23 v d p) :
    ∃ l : Lim, v = .agg l.cells ∧ I64 l.lo ∧ I64 l.hi ∧ I64 l.hy := by
  obtain ⟨cs, n, rfl, hsz, hf⟩ := open_agg_fields Try.underlying23 (by kernel_rfl) limC hv h
  obtain ⟨v0, y0, g0, t0⟩ := hf 0 _ rfl
  obtain ⟨v1, y1, g1, t1⟩ := hf 1 _ rfl
  obtain ⟨v2, y2, g2, t2⟩ := hf 2 _ rfl
  obtain ⟨v3, y3, g3, t3⟩ := hf 3 _ rfl
  obtain ⟨v4, y4, g4, t4⟩ := hf 4 _ rfl
  obtain ⟨v5, y5, g5, t5⟩ := hf 5 _ rfl
  obtain ⟨n0, e0, _⟩ := DataW.trod_bool Try.underlying4 t0
  obtain ⟨n1, e1, _⟩ := DataW.trod_bool Try.underlying4 t1
  obtain ⟨n2, e2, _⟩ := DataW.trod_bool Try.underlying4 t2
  obtain ⟨n3, e3, _, w3⟩ := DataW.trod_int Try.underlying3 t3
  obtain ⟨n4, e4, _, w4⟩ := DataW.trod_int Try.underlying3 t4
  obtain ⟨n5, e5, _, w5⟩ := DataW.trod_int Try.underlying3 t5
  simp only [List.cons.injEq, and_true] at e0 e1 e2 e3 e4 e5
  subst e0 e1 e2 e3 e4 e5
  refine ⟨⟨n0, n1, n2, n3, n4, n5⟩, congrArg _ ?_, I64.of w3, I64.of w4, I64.of w5⟩
  apply Array.ext_getElem?
  intro i
  by_cases hi : i < 6
  · have : i = 0 ∨ i = 1 ∨ i = 2 ∨ i = 3 ∨ i = 4 ∨ i = 5 := by omega
    rcases this with h | h | h | h | h | h <;> subst h <;> assumption
  · have hs6 : cs.size = 6 := hsz
    rw [Array.getElem?_eq_none (by omega), Array.getElem?_eq_none (by show 6 ≤ i; omega)]
theorem open_alm {H : Type} {enc : TypeId × Value → H} {W : World} {b0 : Nat} {v : Value} {d : DataW H} {p : List MemPlace}
    (hv : Value.okWide Try.prog W .any b0 25 v) (h : DataW.Trod enc Try.prog W 0 (fun _ => true) true 25 v d p) :
    ∃ a : Alm, v = .agg a.cells := by
  obtain ⟨v0, v1, y0, y1, n, rfl, _, _, t0, t1⟩ := open_agg2 Try.underlying25 (by kernel_rfl) almC hv h
  obtain ⟨n0, e0, _, w0⟩ := DataW.trod_int Try.underlying3 t0
  obtain ⟨n1, e1, _⟩ := DataW.trod_bool Try.underlying4 t1
  simp only [List.cons.injEq, and_true] at e0 e1
  subst e0 e1
  exact ⟨⟨n0, n1⟩, rfl⟩

theorem almT : Try.prog.underlying 25 = some (.struct (Try.prog.fieldsOf 25)) := by kernel_rfl
theorem almH : Try.prog.stoodInHeld 25 = false := by kernel_rfl
def eqa (a : Int) (b : Bool) (a' : Int) (b' : Bool) : Bool := decide (a = a' ∧ b = b')
theorem eqa_self (a : Int) (b : Bool) : eqa a b a b = true := by simp [eqa]
theorem eqa_iff (x y : Alm) : eqa x.st x.wt y.st y.wt = decide (x = y) := by
  unfold eqa
  rw [decide_eq_decide]
  obtain ⟨a, b⟩ := x
  obtain ⟨a', b'⟩ := y
  simp
theorem eq_alm (a : Int) (b : Bool) (a' : Int) (b' : Bool) (w : World) : (binOp .eql 25 (.agg #[.int .i64 a, .bool b]) (.agg #[.int .i64 a', .bool b'])).run Try.prog w = .ok (.bool (eqa a b a' b')) w := by
  rw [run_eql_struct, run_equalIn_agg _ _ _ _ _ almT almH]
  simp [go_sem]
  by_cases h1 : a = a' <;> by_cases h2 : b = b' <;> simp [eqa, h1, h2]
theorem ne_alm (a : Int) (b : Bool) (a' : Int) (b' : Bool) (w : World) : (binOp .neq 25 (.agg #[.int .i64 a, .bool b]) (.agg #[.int .i64 a', .bool b'])).run Try.prog w = .ok (.bool (!eqa a b a' b')) w := by
  rw [run_neq_struct, run_equalIn_agg _ _ _ _ _ almT almH]
  simp [go_sem]
  by_cases h1 : a = a' <;> by_cases h2 : b = b' <;> simp [eqa, h1, h2]
attribute [local go_sem high] eq_alm ne_alm eqa_self

/-- the chapter's limits. -/
def bandL : Lim := ⟨true, true, false, 10, 20, 2⟩
theorem band_any (w : World) : Calls Try.prog 18 #[] w fun e w' => e = .returned (.agg bandL.cells) ∧ Below w.heap.size w w' := by
  go_enter Try.func18, Try.ntmps18
  go_wp2
  refine bodyPost_ret (v := .agg bandL.cells) ?_ rfl ⟨rfl, by (repeat (first | (with_reducible assumption) | (with_reducible exact Below.refl _ _) | ((with_reducible refine Below.setCell ?_ ?_ _); rotate_left; · (first | omega | (simp; done) | (simp; omega) | (simp at *; omega))) | ((with_reducible refine Below.alloc ?_ ?_ _); rotate_left; · (first | omega | (simp; done) | (simp; omega) | (simp at *; omega))) | (with_reducible refine Below.drew ?_) | (with_reducible refine below_drewN ?_ _) | ((refine Below.trans ?_ (Below.mono (by with_reducible assumption) ?_)); rotate_left; · (first | omega | (simp; done) | (simp; omega) | (simp at *; omega)))))⟩
  simp [results, Try.results18, go_sem, bandL, Lim.cells]
theorem step_at (l : Lim) (a r : Alm) (n v : Int) (w : World) (h : stepTo l a v = (r, n)) :
    Calls Try.prog 10 #[.agg l.cells, .agg #[.int .i64 a.st, .bool a.wt], .int .i64 v] w fun e w' => e = .returned (.tuple #[.agg #[.int .i64 r.st, .bool r.wt], .int .i64 n]) ∧ Below w.heap.size w w' := by
  refine (step_any l a v w).mono ?_
  rintro e w' ⟨rfl, hb⟩
  rw [h]
  exact ⟨rfl, hb⟩

/-- an alarm in a block. -/
def AB (w : World) (g : Nat) (a : Alm) : Prop := Blk w g 25 #[.int .i64 a.st, .bool a.wt]
theorem AB.below {w w' : World} {g : Nat} {a : Alm} (h : AB w g a) (hb : Below w.heap.size w w') : AB w' g a := Blk.below h hb h.lt

theorem keepA {wz w' : World} {g : Nat} {x0 x1 : Value} (hb : Below wz.heap.size wz w') (c0 : wz.cell? ⟨g, 0, none⟩ = some x0) (c1 : wz.cell? ⟨g, 1, none⟩ = some x1) (hl : g < wz.heap.size) :
    w'.cell? ⟨g, 0, none⟩ = some x0 ∧ w'.cell? ⟨g, 1, none⟩ = some x1 ∧ g < w'.heap.size ∧ wz.heap.size ≤ w'.heap.size ∧ Below wz.heap.size wz w' :=
  ⟨(hb.cell (p := ⟨g, 0, none⟩) hl).trans c0, (hb.cell (p := ⟨g, 1, none⟩) hl).trans c1, Nat.lt_of_lt_of_le hl hb.size, hb.size, hb⟩

set_option maxRecDepth 100000 in
set_option maxHeartbeats 2000000 in
theorem works_any (w : World) : Calls Try.prog 11 #[] w fun e w' => e = .returned (.bool true) ∧ Below w.heap.size w w' := by
  have HCL := Lib.hid (show bandL.cells = #[.bool true, .bool true, .bool false, .int .i64 10, .int .i64 20, .int .i64 2] from rfl)
  go_enter Try.func11, Try.ntmps11
  go_wp2_with fail
  refine (band_any _).mono ?_
  rintro e w1 ⟨rfl, hb1⟩
  go_wp2_with fail
  refine (step_at bandL ⟨0, false⟩ ⟨1, true⟩ 1 10 _ (by decide)).mono ?_
  rintro e w2 ⟨rfl, hb2⟩
  have hw2 : Below w.heap.size w w2 := hb1.trans (hb2.mono hb1.size)
  have HW2 := Lib.hid (hw2.alloc hw2.size (.cells #[.int .i64 1, .bool true] 25))
  have HA := Lib.hid (show AB (w2.alloc (.cells #[.int .i64 1, .bool true] 25)) w2.heap.size ⟨1, true⟩ from Blk.new _ _ _)
  clear hb1 hb2 hw2
  go_upto_region 2 with fail
  obtain ⟨wa, hwa⟩ : ∃ wa : World, wa = w2.alloc (.cells #[.int .i64 1, .bool true] 25) := ⟨_, rfl⟩
  obtain ⟨ga, hga⟩ : ∃ ga, ga = w2.heap.size := ⟨_, rfl⟩
  rw [← hwa] at HW2 HA ⊢
  rw [← hga] at HA ⊢
  clear hwa hga
  go_upto_region 2 with fail
  go_cut [3, 4] (fun s1 s2 wx => ∃ g, s1 = .pointer (some ⟨g, 0, none⟩) ∧ s2 = .int .i64 0 ∧ AB wx g ⟨1, true⟩ ∧ Below wa.heap.size wa wx)
  case first =>
    obtain ⟨c0, c1, _, _⟩ := Blk.two HA.out
    have hla := Blk.lt HA.out
    go_region_held3 (fun w' => w'.cell? ⟨ga, 0, none⟩ = some (.int .i64 1) ∧ w'.cell? ⟨ga, 1, none⟩ = some (.bool true) ∧ ga < w'.heap.size ∧ wa.heap.size ≤ w'.heap.size ∧ Below wa.heap.size wa w')
      ((go_split_ands; refine keepA ?_ c0 c1 hla; (repeat (first | (with_reducible assumption) | (with_reducible exact Below.refl _ _) | ((with_reducible refine Below.setCell ?_ ?_ _); rotate_left; · (first | omega | (simp; done) | (simp; omega) | (simp at *; omega))) | ((with_reducible refine Below.alloc ?_ ?_ _); rotate_left; · (first | omega | (simp; done) | (simp; omega) | (simp at *; omega))) | (with_reducible refine Below.drew ?_) | (with_reducible refine below_drewN ?_ _) | ((refine Below.trans ?_ (Below.mono (by with_reducible assumption) ?_)); rotate_left; · (first | omega | (simp; done) | (simp; omega) | (simp at *; omega)))))))
      (first
        | (go_at_call 18; refine (band_any _).mono ?_; rintro e w3 ⟨rfl, hb3⟩; (try go_split_ands); (try (have B3 := ((Blk.new wa 25 #[.int .i64 0, .bool false]).drew).below hb3 (by simp))); have hk3 : Below wa.heap.size wa w3 := (by (repeat (first | (with_reducible assumption) | (with_reducible exact Below.refl _ _) | ((with_reducible refine Below.setCell ?_ ?_ _); rotate_left; · (first | omega | (simp; done) | (simp; omega) | (simp at *; omega))) | ((with_reducible refine Below.alloc ?_ ?_ _); rotate_left; · (first | omega | (simp; done) | (simp; omega) | (simp at *; omega))) | (with_reducible refine Below.drew ?_) | (with_reducible refine below_drewN ?_ _) | ((refine Below.trans ?_ (Below.mono (by with_reducible assumption) ?_)); rotate_left; · (first | omega | (simp; done) | (simp; omega) | (simp at *; omega)))))); have hs3 := hk3.size)
        | (go_at_call 10; refine (step_at bandL ⟨1, true⟩ ⟨1, true⟩ 0 12 _ (by decide)).mono ?_; rintro e w4 ⟨rfl, hb4⟩; (try go_split_ands); (first | (have B4 := Blk.below B3 hb4 B3.lt; obtain ⟨q0, q1, q2, q3⟩ := B4.two; have hq4 := B4.lt) | (have B4 := ((Blk.new w3 25 #[.int .i64 0, .bool false])).below hb4 (by simp); obtain ⟨q0, q1, q2, q3⟩ := B4.two; have hq4 := B4.lt) | skip); have hk4 : Below wa.heap.size wa w4 := (by first | exact hk3.trans (hb4.mono hk3.size) | (repeat (first | (with_reducible assumption) | (with_reducible exact Below.refl _ _) | ((with_reducible refine Below.setCell ?_ ?_ _); rotate_left; · (first | omega | (simp; done) | (simp; omega) | (simp at *; omega))) | ((with_reducible refine Below.alloc ?_ ?_ _); rotate_left; · (first | omega | (simp; done) | (simp; omega) | (simp at *; omega))) | (with_reducible refine Below.drew ?_) | (with_reducible refine below_drewN ?_ _) | ((refine Below.trans ?_ (Below.mono (by with_reducible assumption) ?_)); rotate_left; · (first | omega | (simp; done) | (simp; omega) | (simp at *; omega)))))); have hs4 := hk4.size))
    all_goals
      go_wp2_with fail
      go_meet
      first
        | exact ⟨w4.heap.size, rfl, rfl, Blk.new _ _ _, hk4.alloc hs4 _⟩
        | exact ⟨w3.heap.size, rfl, rfl, Blk.set_ (Blk.set_ B4 0 _) 1 _, (hk4.setCell (p := ⟨w3.heap.size, 0, none⟩) hs3 _).setCell (p := ⟨w3.heap.size, 1, none⟩) hs3 _⟩
        | exact ⟨wa.heap.size, rfl, rfl, Blk.set_ (Blk.set_ B4 0 _) 1 _, (hk4.setCell (p := ⟨wa.heap.size, 0, none⟩) (Nat.le_refl _) _).setCell (p := ⟨wa.heap.size, 1, none⟩) (Nat.le_refl _) _⟩
  obtain ⟨gb, rfl, rfl, hB, hbx⟩ := hcut
  obtain ⟨wb, rfl⟩ : ∃ wz : World, wz = wc := ⟨_, rfl⟩
  have HAb := Lib.hid (HA.out.below hbx)
  have HB := Lib.hid hB
  have HWb := Lib.hid (HW2.out.trans (hbx.mono HW2.out.size))
  clear hB hbx HA HW2
  go_upto_region 3 with fail
  go_cut [5, 6] (fun s1 s2 wx => ∃ g, s1 = .pointer (some ⟨g, 0, none⟩) ∧ s2 = .int .i64 3 ∧ AB wx g ⟨0, true⟩ ∧ Below wb.heap.size wb wx)
  case first =>
    obtain ⟨c0, c1, _, _⟩ := Blk.two HB.out
    have hla := Blk.lt HB.out
    go_region_held3 (fun w' => w'.cell? ⟨gb, 0, none⟩ = some (.int .i64 1) ∧ w'.cell? ⟨gb, 1, none⟩ = some (.bool true) ∧ gb < w'.heap.size ∧ wb.heap.size ≤ w'.heap.size ∧ Below wb.heap.size wb w')
      ((go_split_ands; refine keepA ?_ c0 c1 hla; (repeat (first | (with_reducible assumption) | (with_reducible exact Below.refl _ _) | ((with_reducible refine Below.setCell ?_ ?_ _); rotate_left; · (first | omega | (simp; done) | (simp; omega) | (simp at *; omega))) | ((with_reducible refine Below.alloc ?_ ?_ _); rotate_left; · (first | omega | (simp; done) | (simp; omega) | (simp at *; omega))) | (with_reducible refine Below.drew ?_) | (with_reducible refine below_drewN ?_ _) | ((refine Below.trans ?_ (Below.mono (by with_reducible assumption) ?_)); rotate_left; · (first | omega | (simp; done) | (simp; omega) | (simp at *; omega)))))))
      (first
        | (go_at_call 18; refine (band_any _).mono ?_; rintro e w3 ⟨rfl, hb3⟩; (try go_split_ands); (try (have B3 := ((Blk.new wb 25 #[.int .i64 0, .bool false]).drew).below hb3 (by simp))); have hk3 : Below wb.heap.size wb w3 := (by (repeat (first | (with_reducible assumption) | (with_reducible exact Below.refl _ _) | ((with_reducible refine Below.setCell ?_ ?_ _); rotate_left; · (first | omega | (simp; done) | (simp; omega) | (simp at *; omega))) | ((with_reducible refine Below.alloc ?_ ?_ _); rotate_left; · (first | omega | (simp; done) | (simp; omega) | (simp at *; omega))) | (with_reducible refine Below.drew ?_) | (with_reducible refine below_drewN ?_ _) | ((refine Below.trans ?_ (Below.mono (by with_reducible assumption) ?_)); rotate_left; · (first | omega | (simp; done) | (simp; omega) | (simp at *; omega)))))); have hs3 := hk3.size)
        | (go_at_call 10; refine (step_at bandL ⟨1, true⟩ ⟨0, true⟩ 3 13 _ (by decide)).mono ?_; rintro e w4 ⟨rfl, hb4⟩; (try go_split_ands); (first | (have B4 := Blk.below B3 hb4 B3.lt; obtain ⟨q0, q1, q2, q3⟩ := B4.two; have hq4 := B4.lt) | (have B4 := ((Blk.new w3 25 #[.int .i64 0, .bool false])).below hb4 (by simp); obtain ⟨q0, q1, q2, q3⟩ := B4.two; have hq4 := B4.lt) | skip); have hk4 : Below wb.heap.size wb w4 := (by first | exact hk3.trans (hb4.mono hk3.size) | (repeat (first | (with_reducible assumption) | (with_reducible exact Below.refl _ _) | ((with_reducible refine Below.setCell ?_ ?_ _); rotate_left; · (first | omega | (simp; done) | (simp; omega) | (simp at *; omega))) | ((with_reducible refine Below.alloc ?_ ?_ _); rotate_left; · (first | omega | (simp; done) | (simp; omega) | (simp at *; omega))) | (with_reducible refine Below.drew ?_) | (with_reducible refine below_drewN ?_ _) | ((refine Below.trans ?_ (Below.mono (by with_reducible assumption) ?_)); rotate_left; · (first | omega | (simp; done) | (simp; omega) | (simp at *; omega)))))); have hs4 := hk4.size))
    all_goals
      go_wp2_with fail
      go_meet
      first
        | exact ⟨w4.heap.size, rfl, rfl, Blk.new _ _ _, hk4.alloc hs4 _⟩
        | exact ⟨w3.heap.size, rfl, rfl, Blk.set_ (Blk.set_ B4 0 _) 1 _, (hk4.setCell (p := ⟨w3.heap.size, 0, none⟩) hs3 _).setCell (p := ⟨w3.heap.size, 1, none⟩) hs3 _⟩
        | exact ⟨wb.heap.size, rfl, rfl, Blk.set_ (Blk.set_ B4 0 _) 1 _, (hk4.setCell (p := ⟨wb.heap.size, 0, none⟩) (Nat.le_refl _) _).setCell (p := ⟨wb.heap.size, 1, none⟩) (Nat.le_refl _) _⟩
  obtain ⟨gd, rfl, rfl, hD, hbx⟩ := hcut
  obtain ⟨wd, rfl⟩ : ∃ wz : World, wz = wc := ⟨_, rfl⟩
  have HWd := Lib.hid (HWb.out.trans (hbx.mono HWb.out.size))
  obtain ⟨a0, a1, _, _⟩ := Blk.two (HAb.out.below hbx)
  obtain ⟨b0, b1, _, _⟩ := Blk.two (HB.out.below hbx)
  obtain ⟨d0, d1, _, _⟩ := Blk.two hD
  clear hD hbx HAb HB HWb
  go_wp2_with fail
  go_ret
  exact ⟨rfl, HWd.out⟩

theorem keep9 {wz w' : World} {L g b o : Nat} {x0 x1 x2 x3 x4 x5 y0 y1 z : Value} (hb : Below wz.heap.size wz w')
    (e0 : wz.cell? ⟨L, 0, none⟩ = some x0) (e1 : wz.cell? ⟨L, 1, none⟩ = some x1) (e2 : wz.cell? ⟨L, 2, none⟩ = some x2) (e3 : wz.cell? ⟨L, 3, none⟩ = some x3) (e4 : wz.cell? ⟨L, 4, none⟩ = some x4) (e5 : wz.cell? ⟨L, 5, none⟩ = some x5)
    (c0 : wz.cell? ⟨g, 0, none⟩ = some y0) (c1 : wz.cell? ⟨g, 1, none⟩ = some y1) (d0 : wz.cell? ⟨b, o, none⟩ = some z) (l1 : L < wz.heap.size) (l2 : g < wz.heap.size) (l3 : b < wz.heap.size) :
    w'.cell? ⟨L, 0, none⟩ = some x0 ∧ w'.cell? ⟨L, 1, none⟩ = some x1 ∧ w'.cell? ⟨L, 2, none⟩ = some x2 ∧ w'.cell? ⟨L, 3, none⟩ = some x3 ∧ w'.cell? ⟨L, 4, none⟩ = some x4 ∧ w'.cell? ⟨L, 5, none⟩ = some x5 ∧
      w'.cell? ⟨g, 0, none⟩ = some y0 ∧ w'.cell? ⟨g, 1, none⟩ = some y1 ∧ w'.cell? ⟨b, o, none⟩ = some z ∧ wz.heap.size ≤ w'.heap.size ∧ Below wz.heap.size wz w' :=
  ⟨(hb.cell (p := ⟨L, 0, none⟩) l1).trans e0, (hb.cell (p := ⟨L, 1, none⟩) l1).trans e1, (hb.cell (p := ⟨L, 2, none⟩) l1).trans e2, (hb.cell (p := ⟨L, 3, none⟩) l1).trans e3, (hb.cell (p := ⟨L, 4, none⟩) l1).trans e4, (hb.cell (p := ⟨L, 5, none⟩) l1).trans e5,
    (hb.cell (p := ⟨g, 0, none⟩) l2).trans c0, (hb.cell (p := ⟨g, 1, none⟩) l2).trans c1, (hb.cell (p := ⟨b, o, none⟩) l3).trans d0, hb.size, hb⟩
theorem step_to (l : Lim) (a r : Alm) (n v : Int) (w : World) (h : stepTo l a v = (r, n)) :
    Calls Try.prog 10 #[.agg #[.bool l.ul, .bool l.uh, .bool l.la, .int .i64 l.lo, .int .i64 l.hi, .int .i64 l.hy], .agg #[.int .i64 a.st, .bool a.wt], .int .i64 v] w fun e w' => e = .returned (.tuple #[.agg #[.int .i64 r.st, .bool r.wt], .int .i64 n]) ∧ Below w.heap.size w w' :=
  step_at l a r n v w h
theorem rstep_to (l : Lim) (a r : Alm) (n v : Int) (w : World) (h : stepTo l a v = (r, n)) :
    Calls Try.prog 14 #[.agg #[.bool l.ul, .bool l.uh, .bool l.la, .int .i64 l.lo, .int .i64 l.hi, .int .i64 l.hy], .agg #[.int .i64 a.st, .bool a.wt], .int .i64 v] w fun e w' => e = .returned (.tuple #[.agg #[.int .i64 r.st, .bool r.wt], .int .i64 n]) ∧ Below w.heap.size w w' := by
  refine (rstep_any l a v w).mono ?_
  rintro e w' ⟨rfl, hb⟩
  rw [h]
  exact ⟨rfl, hb⟩
theorem ack_to (a : Alm) (w : World) :
    Calls Try.prog 15 #[.agg #[.int .i64 a.st, .bool a.wt]] w fun e w' => e = .returned (.tuple #[.agg #[.int .i64 a.st, .bool false], .bool a.wt]) ∧ Below w.heap.size w w' := ack_any a w
theorem rack_to (a : Alm) (w : World) :
    Calls Try.prog 16 #[.agg #[.int .i64 a.st, .bool a.wt]] w fun e w' => e = .returned (.tuple #[.agg #[.int .i64 a.st, .bool false], .bool a.wt]) ∧ Below w.heap.size w w' := rack_any a w
theorem check_to (l : Lim) (w : World) :
    Calls Try.prog 13 #[.agg #[.bool l.ul, .bool l.uh, .bool l.la, .int .i64 l.lo, .int .i64 l.hi, .int .i64 l.hy]] w fun e w' => e = .returned (.int .i64 l.err) ∧ Below w.heap.size w w' := check_any l w
theorem rcheck_to (l : Lim) (w : World) :
    Calls Try.prog 17 #[.agg #[.bool l.ul, .bool l.uh, .bool l.la, .int .i64 l.lo, .int .i64 l.hi, .int .i64 l.hy]] w fun e w' => e = .returned (.int .i64 l.err) ∧ Below w.heap.size w w' := rcheck_any l w
end Go.Proofs.Ytgkhdoklbbedpaa
