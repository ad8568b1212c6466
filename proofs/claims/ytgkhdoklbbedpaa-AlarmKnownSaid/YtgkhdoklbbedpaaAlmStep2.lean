/-
  What is proved here: what Step of package alarm answers (chapter 8). Conditions: none beyond each theorem's own.
-/
import Derived.Test.YtgkhdoklbbedpaaAlmStep
import Derived.Laws.EntriesVeiled
namespace Go.Proofs.Ytgkhdoklbbedpaa
open Go.RowKit Go.Deep

/-- both sides of limits, as a value. -/
def sideCells (g : Nat) : Array Value := #[.int .i64 1, .int .i64 1, .func (Fn.func 25) #[] #[.pointer (some ⟨g, 0, none⟩)], .func (Fn.func 26) #[] #[.pointer (some ⟨g, 0, none⟩)],
  .int .i64 2, .int .i64 2, .func (Fn.func 27) #[] #[.pointer (some ⟨g, 0, none⟩)], .func (Fn.func 28) #[] #[.pointer (some ⟨g, 0, none⟩)]]
theorem sides_any (l : Lim) (w : World) :
    Calls Try.prog 19 #[.agg l.cells] w fun e w' => e = .returned (.agg (sideCells w.heap.size)) ∧ LB w' w.heap.size l ∧ Below w.heap.size w w' := by
  unfold Lim.cells
  have h0 := (Blk.new w 23 l.cells).alloc (.cells (sideCells w.heap.size) 44)
  unfold Lim.cells at h0
  have H0 := Lib.hid h0
  clear h0
  go_enter Try.func19, Try.ntmps19
  go_wp2
  refine bodyPost_ret (v := .agg (sideCells w.heap.size)) ?_ ?_ ?_
  · simp [results, Try.results19, go_sem, sideCells]
  · rfl
  · exact ⟨rfl, H0.out, by (repeat (first | (with_reducible assumption) | (with_reducible exact Below.refl _ _) | ((with_reducible refine Below.setCell ?_ ?_ _); rotate_left; · (first | omega | (simp; done) | (simp; omega) | (simp at *; omega))) | ((with_reducible refine Below.alloc ?_ ?_ _); rotate_left; · (first | omega | (simp; done) | (simp; omega) | (simp at *; omega))) | (with_reducible refine Below.drew ?_) | (with_reducible refine below_drewN ?_ _) | ((refine Below.trans ?_ (Below.mono (by with_reducible assumption) ?_)); rotate_left; · (first | omega | (simp; done) | (simp; omega) | (simp at *; omega)))))⟩

def Alm.cells (a : Alm) : Array Value := #[.int .i64 a.st, .bool a.wt]
/-- what comes back of a step. -/
def StepBack (w : World) (r : Alm × Int) (e : Ending) (w' : World) : Prop := e = .returned (.tuple #[.agg r.1.cells, .int .i64 r.2]) ∧ Below w.heap.size w w'
theorem step_bad {l : Lim} {a : Alm} {v : Int} (h : ¬ (l.Ok ∧ a.Fine)) : stepTo l a v = (a, 0) := by unfold stepTo; rw [if_neg h]

set_option maxHeartbeats 1000000 in
theorem step_no (l : Lim) (a : Alm) (v : Int) (w : World) (h : ¬ (l.Ok ∧ a.Fine)) :
    Calls Try.prog 10 #[.agg l.cells, .agg a.cells, .int .i64 v] w (StepBack w (stepTo l a v)) := by
  have HE := Lib.hid (step_bad (v := v) h)
  have hc : ¬ l.Ok ∨ (l.Ok ∧ (a.st < 0 ∨ (¬ a.st < 0 ∧ 2 < a.st))) := by
    by_cases ho : l.Ok
    · right
      refine ⟨ho, ?_⟩
      have hf : ¬ a.Fine := fun x => h ⟨ho, x⟩
      unfold Alm.Fine at hf
      omega
    · exact .inl ho
  clear h
  have HCL := Lib.hid (show l.cells = #[.bool l.ul, .bool l.uh, .bool l.la, .int .i64 l.lo, .int .i64 l.hi, .int .i64 l.hy] from rfl)
  have HCK := Lib.hid (fun W => check_any l W)
  rw [HCL.out] at HCK ⊢
  unfold Alm.cells
  rcases hc with ho | ⟨ho, h1 | ⟨h1, h2⟩⟩
  all_goals
    first | (have hx : (l.err != 0) = true := by unfold Lim.err; rw [if_neg ho]; rfl) | (have hx : (l.err != 0) = false := by unfold Lim.err; rw [if_pos ho]; rfl)
    clear ho
    go_enter Try.func10, Try.ntmps10
    go_wp2_with fail
    refine (HCK.out _).mono ?_
    rintro e w1 ⟨rfl, hb1⟩
    have BA := (((Blk.new (w.alloc (.cells #[.bool l.ul, .bool l.uh, .bool l.la, .int .i64 l.lo, .int .i64 l.hi, .int .i64 l.hy] 23)) 25 #[.int .i64 a.st, .bool a.wt]).alloc (.cells #[.int .i64 0, .bool false] 25)).below hb1 (by first | omega | (simp; done) | (simp; omega) | (simp at *; omega)))
    have BR := ((Blk.new ((w.alloc (.cells #[.bool l.ul, .bool l.uh, .bool l.la, .int .i64 l.lo, .int .i64 l.hi, .int .i64 l.hy] 23)).alloc (.cells #[.int .i64 a.st, .bool a.wt] 25)) 25 #[.int .i64 0, .bool false]).below hb1 (by first | omega | (simp; done) | (simp; omega) | (simp at *; omega)))
    simp only [World.size_alloc] at BA BR
    have hw1 := hb1.size; try simp only [World.size_alloc] at hw1
    have hbw1 : Below w.heap.size w w1 := by (repeat (first | (with_reducible assumption) | (with_reducible exact Below.refl _ _) | ((with_reducible refine Below.setCell ?_ ?_ _); rotate_left; · (first | omega | (simp; done) | (simp; omega) | (simp at *; omega))) | ((with_reducible refine Below.alloc ?_ ?_ _); rotate_left; · (first | omega | (simp; done) | (simp; omega) | (simp at *; omega))) | (with_reducible refine Below.drew ?_) | (with_reducible refine below_drewN ?_ _) | ((refine Below.trans ?_ (Below.mono (by with_reducible assumption) ?_)); rotate_left; · (first | omega | (simp; done) | (simp; omega) | (simp at *; omega)))))
    have l1 : w.heap.size + 1 < w1.heap.size := by omega
    have l2 : w.heap.size + 1 + 1 < w1.heap.size := by omega
    clear hb1
    obtain ⟨c0, c1, _, _⟩ := BA.two
    obtain ⟨d0, d1, d2, d3⟩ := BR.two
    clear BA BR
    go_wp2_with fail
    refine bodyPost_ret (v := .tuple #[.agg #[.int .i64 a.st, .bool a.wt], .int .i64 0]) ?_ ?_ ?_
    · simp [results, Try.results10, go_sem, d0, d1]
    · rfl
    · exact ⟨by rw [HE.out]; rfl, by (repeat (first | (with_reducible assumption) | (with_reducible exact Below.refl _ _) | ((with_reducible refine Below.setCell ?_ ?_ _); rotate_left; · (first | omega | (simp; done) | (simp; omega) | (simp at *; omega))) | ((with_reducible refine Below.alloc ?_ ?_ _); rotate_left; · (first | omega | (simp; done) | (simp; omega) | (simp at *; omega))) | (with_reducible refine Below.drew ?_) | (with_reducible refine below_drewN ?_ _) | ((refine Below.trans ?_ (Below.mono (by with_reducible assumption) ?_)); rotate_left; · (first | omega | (simp; done) | (simp; omega) | (simp at *; omega)))))⟩

theorem pick0 (g : Nat) (w : World) : (Instr.index 44 (.agg (sideCells g)) (.int .i64 0)).run Try.prog w = .ok (.agg #[.int .i64 1, .int .i64 1, .func (Fn.func 25) #[] #[.pointer (some ⟨g, 0, none⟩)], .func (Fn.func 26) #[] #[.pointer (some ⟨g, 0, none⟩)]]) w := by kernel_rfl
theorem pick1 (g : Nat) (w : World) : (Instr.index 44 (.agg (sideCells g)) (.int .i64 1)).run Try.prog w = .ok (.agg #[.int .i64 2, .int .i64 2, .func (Fn.func 27) #[] #[.pointer (some ⟨g, 0, none⟩)], .func (Fn.func 28) #[] #[.pointer (some ⟨g, 0, none⟩)]]) w := by kernel_rfl

/-- what the walk holds on to: the limits, the alarm, the answer's cells, the sides' own limits, and nothing old has turned. -/
def Hold (w : World) (l : Lim) (a : Alm) (g : Nat) (wr : World) : Prop :=
  LB wr w.heap.size l ∧ Blk wr (w.heap.size + 1) 25 a.cells ∧ Blk wr (w.heap.size + 1 + 1) 25 #[.int .i64 0, .bool false] ∧ LB wr g l ∧ Below w.heap.size w wr
theorem Hold.below {w wr w' : World} {l : Lim} {a : Alm} {g : Nat} (h : Hold w l a g wr) (hb : Below wr.heap.size wr w') : Hold w l a g w' :=
  ⟨Blk.below h.1 hb h.1.lt, Blk.below h.2.1 hb h.2.1.lt, Blk.below h.2.2.1 hb h.2.2.1.lt, Blk.below h.2.2.2.1 hb h.2.2.2.1.lt, h.2.2.2.2.trans (hb.mono h.2.2.2.2.size)⟩

def Hold2 (w : World) (l : Lim) (a : Alm) (g gb : Nat) (wr : World) : Prop := Hold w l a g wr ∧ Blk wr gb 44 (sideCells g)
theorem Hold2.below {w wr w' : World} {l : Lim} {a : Alm} {g gb : Nat} (h : Hold2 w l a g gb wr) (hb : Below wr.heap.size wr w') : Hold2 w l a g gb w' := ⟨h.1.below hb, Blk.below h.2 hb h.2.lt⟩

set_option maxRecDepth 100000 in
set_option maxHeartbeats 4000000 in
theorem step_yes (l : Lim) (a : Alm) (v : Int) (w : World) (ho : l.Ok) (hf : a.Fine) :
    Calls Try.prog 10 #[.agg l.cells, .agg a.cells, .int .i64 v] w (StepBack w (stepTo l a v)) := by
  have HCL := Lib.hid (show l.cells = #[.bool l.ul, .bool l.uh, .bool l.la, .int .i64 l.lo, .int .i64 l.hi, .int .i64 l.hy] from rfl)
  have HCK := Lib.hid (fun W => check_any l W)
  have HSD := Lib.hid (fun W => sides_any l W)
  have hx : (l.err != 0) = false := by unfold Lim.err; rw [if_pos ho]; rfl
  have hf1 : ¬ a.st < 0 := by unfold Alm.Fine at hf; omega
  have hf2 : ¬ 2 < a.st := by unfold Alm.Fine at hf; omega
  have HOF := Lib.hid (And.intro ho hf)
  have HST := Lib.hid (show stepTo l a v = (if l.low v = true then (if a.st = 1 then (a, 0) else (⟨1, true⟩, 1)) else if l.high v = true then (if a.st = 2 then (a, 0) else (⟨2, true⟩, 2)) else if ((a.st = 1 ∧ l.back1 v = true) ∨ (a.st = 2 ∧ l.back2 v = true)) ∧ ¬ (l.la = true ∧ a.wt = true) then (⟨0, a.wt⟩, 3) else (a, 0)) by unfold stepTo; rw [if_pos ⟨ho, hf⟩])
  rw [HCL.out] at HCK HSD ⊢
  have HAC := Lib.hid (show a.cells = #[.int .i64 a.st, .bool a.wt] from rfl)
  rw [HAC.out]
  clear ho hf
  go_enter Try.func10, Try.ntmps10
  go_wp2_with fail
  refine (HCK.out _).mono ?_
  rintro e w1 ⟨rfl, hb1⟩
  have BL := (((Blk.new w 23 #[.bool l.ul, .bool l.uh, .bool l.la, .int .i64 l.lo, .int .i64 l.hi, .int .i64 l.hy]).alloc (.cells #[.int .i64 a.st, .bool a.wt] 25)).alloc (.cells #[.int .i64 0, .bool false] 25)).below hb1 (by first | omega | (simp; done) | (simp; omega) | (simp at *; omega))
  have BA := (((Blk.new (w.alloc (.cells #[.bool l.ul, .bool l.uh, .bool l.la, .int .i64 l.lo, .int .i64 l.hi, .int .i64 l.hy] 23)) 25 #[.int .i64 a.st, .bool a.wt]).alloc (.cells #[.int .i64 0, .bool false] 25)).below hb1 (by first | omega | (simp; done) | (simp; omega) | (simp at *; omega)))
  have BR := ((Blk.new ((w.alloc (.cells #[.bool l.ul, .bool l.uh, .bool l.la, .int .i64 l.lo, .int .i64 l.hi, .int .i64 l.hy] 23)).alloc (.cells #[.int .i64 a.st, .bool a.wt] 25)) 25 #[.int .i64 0, .bool false]).below hb1 (by first | omega | (simp; done) | (simp; omega) | (simp at *; omega)))
  simp only [World.size_alloc] at BA BR
  have hw1 := hb1.size; try simp only [World.size_alloc] at hw1
  have hbw1 : Below w.heap.size w w1 := by (repeat (first | (with_reducible assumption) | (with_reducible exact Below.refl _ _) | ((with_reducible refine Below.setCell ?_ ?_ _); rotate_left; · (first | omega | (simp; done) | (simp; omega) | (simp at *; omega))) | ((with_reducible refine Below.alloc ?_ ?_ _); rotate_left; · (first | omega | (simp; done) | (simp; omega) | (simp at *; omega))) | (with_reducible refine Below.drew ?_) | (with_reducible refine below_drewN ?_ _) | ((refine Below.trans ?_ (Below.mono (by with_reducible assumption) ?_)); rotate_left; · (first | omega | (simp; done) | (simp; omega) | (simp at *; omega)))))
  have l0 : w.heap.size < w1.heap.size := by omega
  have l1 : w.heap.size + 1 < w1.heap.size := by omega
  have l2 : w.heap.size + 1 + 1 < w1.heap.size := by omega
  have HB1 := Lib.hid (And.intro BL (And.intro BA (And.intro BR hbw1)))
  clear hb1 hbw1
  obtain ⟨c0, c1, _, _⟩ := BA.two
  have k0 := BL.cell 0
  have k1 := BL.cell 1
  have k2 := BL.cell 2
  have k3 := BL.cell 3
  have k4 := BL.cell 4
  have k5 := BL.cell 5
  simp at k0 k1 k2 k3 k4 k5
  clear BL BA BR
  go_wp2_with fail
  refine (HSD.out _).mono ?_
  rintro e w2 ⟨rfl, hLB, hb2⟩
  have hH : Hold w l a w1.heap.size w2 := ⟨Blk.below HB1.out.1 hb2 HB1.out.1.lt, by rw [HAC.out]; exact Blk.below HB1.out.2.1 hb2 HB1.out.2.1.lt, Blk.below HB1.out.2.2.1 hb2 HB1.out.2.2.1.lt, hLB, HB1.out.2.2.2.trans (hb2.mono (by omega))⟩
  have HH := Lib.hid hH
  have hw2 := hb2.size; try simp only [World.size_alloc] at hw2
  have hlg : w1.heap.size < w2.heap.size := hLB.lt
  clear hb2 hLB hH k0 k1 k2 k3 k4 k5 c0 c1 HB1
  obtain ⟨g, hg⟩ : ∃ g, g = w1.heap.size := ⟨_, rfl⟩
  rw [← hg] at HH hlg ⊢
  clear hg
  unfold sideCells
  have p0 := pick0 g
  have p1 := pick1 g
  unfold sideCells at p0 p1
  have hbB : Below w2.heap.size w2 (w2.alloc (.cells (sideCells g) 44)) := by (repeat (first | (with_reducible assumption) | (with_reducible exact Below.refl _ _) | ((with_reducible refine Below.setCell ?_ ?_ _); rotate_left; · (first | omega | (simp; done) | (simp; omega) | (simp at *; omega))) | ((with_reducible refine Below.alloc ?_ ?_ _); rotate_left; · (first | omega | (simp; done) | (simp; omega) | (simp at *; omega))) | (with_reducible refine Below.drew ?_) | (with_reducible refine below_drewN ?_ _) | ((refine Below.trans ?_ (Below.mono (by with_reducible assumption) ?_)); rotate_left; · (first | omega | (simp; done) | (simp; omega) | (simp at *; omega)))))
  have hhb : Hold2 w l a g w2.heap.size (w2.alloc (.cells (sideCells g) 44)) := ⟨HH.out.below hbB, Blk.new _ _ _⟩
  obtain ⟨gb, hgb⟩ : ∃ gb, gb = w2.heap.size := ⟨_, rfl⟩
  have HGB := Lib.hid hgb
  rw [← hgb] at hhb
  have HHB := Lib.hid hhb
  unfold sideCells at HHB
  clear hbB HH hgb hhb
  go_wp2_with fail
  go_loopg [30] 2 (fun gm i wr => (gm = 2 ∧ i = .int .i64 0 ∧ Hold2 w l a g gb wr) ∨ (gm = 2 - 1 ∧ i = .int .i64 1 ∧ Hold2 w l a g gb wr ∧ l.low v = false) ∨ (gm = 2 - 2 ∧ i = .int .i64 2 ∧ Hold2 w l a g gb wr ∧ l.low v = false ∧ l.high v = false))
  case atStart => exact .inl ⟨rfl, rfl, by unfold Hold2 sideCells; exact HHB.out⟩
  case round =>
    clear HHB
    rcases hrel with ⟨rfl, rfl, hH⟩ | ⟨rfl, rfl, hH, hlow⟩ | ⟨rfl, rfl, hH, hlow, hhigh⟩
    · have HR := Lib.hid hH
      clear hH
      obtain ⟨c0, c1, _, _⟩ := HR.out.1.2.1.two
      obtain ⟨d0, d1, d2, d3⟩ := HR.out.1.2.2.1.two
      have la := HR.out.1.2.1.lt
      have lr := HR.out.1.2.2.1.lt
      have ll := HR.out.1.1.lt
      go_wp2_with fail
      have hbx : Below wr.heap.size wr (wr.alloc (.cells #[.int .i64 1, .int .i64 1, .func (Fn.func 25) #[] #[.pointer (some ⟨g, 0, none⟩)], .func (Fn.func 26) #[] #[.pointer (some ⟨g, 0, none⟩)]] 43)) := by (repeat (first | (with_reducible assumption) | (with_reducible exact Below.refl _ _) | ((with_reducible refine Below.setCell ?_ ?_ _); rotate_left; · (first | omega | (simp; done) | (simp; omega) | (simp at *; omega))) | ((with_reducible refine Below.alloc ?_ ?_ _); rotate_left; · (first | omega | (simp; done) | (simp; omega) | (simp at *; omega))) | (with_reducible refine Below.drew ?_) | (with_reducible refine below_drewN ?_ _) | ((refine Below.trans ?_ (Below.mono (by with_reducible assumption) ?_)); rotate_left; · (first | omega | (simp; done) | (simp; omega) | (simp at *; omega)))))
      have HX := Lib.hid (HR.out.below hbx)
      clear hbx
      refine (side1 l g v _ HX.out.1.2.2.2.1).mono ?_
      rintro e w3 ⟨rfl, hw3⟩
      subst hw3
      rcases two_bools (l.low v) with hl | hl
      · by_cases hs : a.st = 1
        · have HE := Lib.hid (show stepTo l a v = (a, 0) by rw [HST.out, if_pos hl, if_pos hs])
          have n1 : (a.st == 1) = true := by rw [beq_iff_eq]; exact hs
          rw [hl]
          clear hs hl
          go_wp2_with fail
          refine bodyPost_ret (v := .tuple #[.agg #[.int .i64 a.st, .bool a.wt], .int .i64 0]) ?_ ?_ ?_
          · first | (simp [results, Try.results10, go_sem, lr]; done) | (simp [results, Try.results10, go_sem, lr, d0, d1]; done)
          · rfl
          · exact ⟨by rw [HE.out]; rfl, by have hbz := HR.out.1.2.2.2.2; (repeat (first | (with_reducible assumption) | (with_reducible exact Below.refl _ _) | ((with_reducible refine Below.setCell ?_ ?_ _); rotate_left; · (first | omega | (simp; done) | (simp; omega) | (simp at *; omega))) | ((with_reducible refine Below.alloc ?_ ?_ _); rotate_left; · (first | omega | (simp; done) | (simp; omega) | (simp at *; omega))) | (with_reducible refine Below.drew ?_) | (with_reducible refine below_drewN ?_ _) | ((refine Below.trans ?_ (Below.mono (by with_reducible assumption) ?_)); rotate_left; · (first | omega | (simp; done) | (simp; omega) | (simp at *; omega)))))⟩
        · have HE := Lib.hid (show stepTo l a v = (⟨1, true⟩, 1) by rw [HST.out, if_pos hl, if_neg hs])
          have n1 : (a.st == 1) = false := by rw [beq_eq_false_iff_ne]; exact hs
          rw [hl]
          clear hs hl
          go_wp2_with fail
          go_region
          all_goals
            go_wp2_with fail
            refine bodyPost_ret (v := .tuple #[.agg #[.int .i64 1, .bool true], .int .i64 1]) ?_ ?_ ?_
            · first | (simp [results, Try.results10, go_sem, lr]; done) | (simp [results, Try.results10, go_sem, lr, d0, d1]; done)
            · rfl
            · exact ⟨by rw [HE.out]; rfl, by have hbz := HR.out.1.2.2.2.2; (repeat (first | (with_reducible assumption) | (with_reducible exact Below.refl _ _) | ((with_reducible refine Below.setCell ?_ ?_ _); rotate_left; · (first | omega | (simp; done) | (simp; omega) | (simp at *; omega))) | ((with_reducible refine Below.alloc ?_ ?_ _); rotate_left; · (first | omega | (simp; done) | (simp; omega) | (simp at *; omega))) | (with_reducible refine Below.drew ?_) | (with_reducible refine below_drewN ?_ _) | ((refine Below.trans ?_ (Below.mono (by with_reducible assumption) ?_)); rotate_left; · (first | omega | (simp; done) | (simp; omega) | (simp at *; omega)))))⟩
      · have HL := Lib.hid hl
        rw [hl]
        clear hl
        go_wp2_with fail
        go_roundg (2 - 1)
        case measure => omega
        case rel => exact .inr (.inl ⟨rfl, rfl, HX.out, HL.out⟩)
    · have HR := Lib.hid hH
      have HLOW := Lib.hid hlow
      clear hH hlow
      obtain ⟨c0, c1, _, _⟩ := HR.out.1.2.1.two
      obtain ⟨d0, d1, d2, d3⟩ := HR.out.1.2.2.1.two
      have la := HR.out.1.2.1.lt
      have lr := HR.out.1.2.2.1.lt
      have ll := HR.out.1.1.lt
      go_wp2_with fail
      have hbx : Below wr.heap.size wr (wr.alloc (.cells #[.int .i64 2, .int .i64 2, .func (Fn.func 27) #[] #[.pointer (some ⟨g, 0, none⟩)], .func (Fn.func 28) #[] #[.pointer (some ⟨g, 0, none⟩)]] 43)) := by (repeat (first | (with_reducible assumption) | (with_reducible exact Below.refl _ _) | ((with_reducible refine Below.setCell ?_ ?_ _); rotate_left; · (first | omega | (simp; done) | (simp; omega) | (simp at *; omega))) | ((with_reducible refine Below.alloc ?_ ?_ _); rotate_left; · (first | omega | (simp; done) | (simp; omega) | (simp at *; omega))) | (with_reducible refine Below.drew ?_) | (with_reducible refine below_drewN ?_ _) | ((refine Below.trans ?_ (Below.mono (by with_reducible assumption) ?_)); rotate_left; · (first | omega | (simp; done) | (simp; omega) | (simp at *; omega)))))
      have HX := Lib.hid (HR.out.below hbx)
      clear hbx
      refine (side3 l g v _ HX.out.1.2.2.2.1).mono ?_
      rintro e w3 ⟨rfl, hw3⟩
      subst hw3
      rcases two_bools (l.high v) with hl | hl
      · by_cases hs : a.st = 2
        · have HE := Lib.hid (show stepTo l a v = (a, 0) by rw [HST.out, if_neg (by rw [HLOW.out]; simp), if_pos hl, if_pos hs])
          have n1 : (a.st == 2) = true := by rw [beq_iff_eq]; exact hs
          rw [hl]
          clear hs hl
          go_wp2_with fail
          refine bodyPost_ret (v := .tuple #[.agg #[.int .i64 a.st, .bool a.wt], .int .i64 0]) ?_ ?_ ?_
          · first | (simp [results, Try.results10, go_sem, lr]; done) | (simp [results, Try.results10, go_sem, lr, d0, d1]; done)
          · rfl
          · exact ⟨by rw [HE.out]; rfl, by have hbz := HR.out.1.2.2.2.2; (repeat (first | (with_reducible assumption) | (with_reducible exact Below.refl _ _) | ((with_reducible refine Below.setCell ?_ ?_ _); rotate_left; · (first | omega | (simp; done) | (simp; omega) | (simp at *; omega))) | ((with_reducible refine Below.alloc ?_ ?_ _); rotate_left; · (first | omega | (simp; done) | (simp; omega) | (simp at *; omega))) | (with_reducible refine Below.drew ?_) | (with_reducible refine below_drewN ?_ _) | ((refine Below.trans ?_ (Below.mono (by with_reducible assumption) ?_)); rotate_left; · (first | omega | (simp; done) | (simp; omega) | (simp at *; omega)))))⟩
        · have HE := Lib.hid (show stepTo l a v = (⟨2, true⟩, 2) by rw [HST.out, if_neg (by rw [HLOW.out]; simp), if_pos hl, if_neg hs])
          have n1 : (a.st == 2) = false := by rw [beq_eq_false_iff_ne]; exact hs
          rw [hl]
          clear hs hl
          go_wp2_with fail
          go_region
          all_goals
            go_wp2_with fail
            refine bodyPost_ret (v := .tuple #[.agg #[.int .i64 2, .bool true], .int .i64 2]) ?_ ?_ ?_
            · first | (simp [results, Try.results10, go_sem, lr]; done) | (simp [results, Try.results10, go_sem, lr, d0, d1]; done)
            · rfl
            · exact ⟨by rw [HE.out]; rfl, by have hbz := HR.out.1.2.2.2.2; (repeat (first | (with_reducible assumption) | (with_reducible exact Below.refl _ _) | ((with_reducible refine Below.setCell ?_ ?_ _); rotate_left; · (first | omega | (simp; done) | (simp; omega) | (simp at *; omega))) | ((with_reducible refine Below.alloc ?_ ?_ _); rotate_left; · (first | omega | (simp; done) | (simp; omega) | (simp at *; omega))) | (with_reducible refine Below.drew ?_) | (with_reducible refine below_drewN ?_ _) | ((refine Below.trans ?_ (Below.mono (by with_reducible assumption) ?_)); rotate_left; · (first | omega | (simp; done) | (simp; omega) | (simp at *; omega)))))⟩
      · have HL := Lib.hid hl
        rw [hl]
        clear hl
        go_wp2_with fail
        go_roundg (2 - 2)
        case measure => omega
        case rel => exact (.inr (.inr ⟨rfl, rfl, HX.out, HLOW.out, HL.out⟩))
    · have HR := Lib.hid hH
      have HLOW := Lib.hid hlow
      have HHI := Lib.hid hhigh
      have hall : ∀ i, i < 8 → wr.cell? ⟨gb, i, none⟩ = (sideCells g)[i]? := fun i _ => HR.out.2.cell i
      have q0 := hall 0 (by omega)
      have q1 := hall 1 (by omega)
      have q2 := hall 2 (by omega)
      have q3 := hall 3 (by omega)
      have q4 := hall 4 (by omega)
      have q5 := hall 5 (by omega)
      have q6 := hall 6 (by omega)
      have q7 := hall 7 (by omega)
      simp [sideCells] at q0 q1 q2 q3 q4 q5 q6 q7
      have hgl := HR.out.2.lt
      clear hH hlow hhigh hall
      rw [← HGB.out]
      go_wp2_with fail
      clear q0 q1 q2 q3 q4 q5 q6 q7
      go_loopg [50] 2 (fun gm i wx => (gm = 2 ∧ i = .int .i64 0 ∧ Hold2 w l a g gb wx) ∨ (gm = 2 - 1 ∧ i = .int .i64 1 ∧ Hold2 w l a g gb wx ∧ ¬ (a.st = 1 ∧ l.back1 v = true ∧ ¬ (l.la = true ∧ a.wt = true))) ∨ (gm = 2 - 2 ∧ i = .int .i64 2 ∧ Hold2 w l a g gb wx ∧ ¬ (a.st = 1 ∧ l.back1 v = true ∧ ¬ (l.la = true ∧ a.wt = true)) ∧ ¬ (a.st = 2 ∧ l.back2 v = true ∧ ¬ (l.la = true ∧ a.wt = true))))
      case atStart => exact .inl ⟨rfl, rfl, HR.out⟩
      case round =>
        clear HR
        obtain ⟨hbd1, hbd2, hbd3, hbd4⟩ := ok_bounds HOF.out.1
        have HBD := Lib.hid (And.intro (And.intro hbd1 hbd2) (And.intro (And.intro hbd3 hbd4) (And.intro HOF.out.1.1 HOF.out.1.2.1)))
        clear hbd1 hbd2 hbd3 hbd4
        rcases hrel with ⟨rfl, rfl, hH⟩ | ⟨rfl, rfl, hH, hc1⟩ | ⟨rfl, rfl, hH, hc1, hc2⟩
        · have HR := Lib.hid hH
          clear hH
          obtain ⟨c0, c1, _, _⟩ := HR.out.1.2.1.two
          obtain ⟨d0, d1, d2, d3⟩ := HR.out.1.2.2.1.two
          have lla := HR.out.1.2.1.lt
          have lr := HR.out.1.2.2.1.lt
          have ll := HR.out.1.1.lt
          have k2 := HR.out.1.1.all.2.2.1
          have hbx : Below wr.heap.size wr (wr.alloc (.cells #[.int .i64 1, .int .i64 1, .func (Fn.func 25) #[] #[.pointer (some ⟨g, 0, none⟩)], .func (Fn.func 26) #[] #[.pointer (some ⟨g, 0, none⟩)]] 43)) := by (repeat (first | (with_reducible assumption) | (with_reducible exact Below.refl _ _) | ((with_reducible refine Below.setCell ?_ ?_ _); rotate_left; · (first | omega | (simp; done) | (simp; omega) | (simp at *; omega))) | ((with_reducible refine Below.alloc ?_ ?_ _); rotate_left; · (first | omega | (simp; done) | (simp; omega) | (simp at *; omega))) | (with_reducible refine Below.drew ?_) | (with_reducible refine below_drewN ?_ _) | ((refine Below.trans ?_ (Below.mono (by with_reducible assumption) ?_)); rotate_left; · (first | omega | (simp; done) | (simp; omega) | (simp at *; omega)))))
          have HX := Lib.hid (HR.out.below hbx)
          clear hbx
          by_cases hs : a.st = 1
          · have n1 : (a.st == 1) = true := by rw [beq_iff_eq]; exact hs
            have HS := Lib.hid hs
            clear hs
            go_wp2_with fail
            refine (side2 l g v _ HX.out.1.2.2.2.1 HBD.out.1 HBD.out.2.2).mono ?_
            rintro e w3 ⟨rfl, hw3⟩
            subst hw3
            rcases two_bools (l.back1 v) with hl | hl
            · rcases two_bools l.la with hla | hla
              · rcases two_bools a.wt with hwt | hwt
                · have HW := Lib.hid (And.intro hla hwt)
                  rw [hl]
                  rw [hla] at k2
                  rw [hwt] at c1
                  clear hl hla hwt
                  go_wp2_with fail
                  go_roundg (2 - 1)
                  case measure => omega
                  case rel => exact .inr (.inl ⟨rfl, rfl, HX.out, fun h => h.2.2 HW.out⟩)
                · have HE := Lib.hid (show stepTo l a v = (⟨0, a.wt⟩, 3) by rw [HST.out, if_neg (by rw [HLOW.out]; simp), if_neg (by rw [HHI.out]; simp), if_pos ⟨.inl ⟨HS.out, hl⟩, fun h => by rw [hwt] at h; cases h.2⟩])
                  have HW := Lib.hid hwt
                  rw [hl]
                  rw [hla] at k2
                  rw [hwt] at c1
                  clear hl hla hwt
                  go_wp2_with fail
                  refine bodyPost_ret (v := .tuple #[.agg #[.int .i64 0, .bool false], .int .i64 3]) ?_ ?_ ?_
                  · first | (simp [results, Try.results10, go_sem, lr]; done) | (simp [results, Try.results10, go_sem, lr, d0, d1]; done)
                  · rfl
                  · exact ⟨by rw [HE.out, HW.out]; rfl, by have hbz := HR.out.1.2.2.2.2; (repeat (first | (with_reducible assumption) | (with_reducible exact Below.refl _ _) | ((with_reducible refine Below.setCell ?_ ?_ _); rotate_left; · (first | omega | (simp; done) | (simp; omega) | (simp at *; omega))) | ((with_reducible refine Below.alloc ?_ ?_ _); rotate_left; · (first | omega | (simp; done) | (simp; omega) | (simp at *; omega))) | (with_reducible refine Below.drew ?_) | (with_reducible refine below_drewN ?_ _) | ((refine Below.trans ?_ (Below.mono (by with_reducible assumption) ?_)); rotate_left; · (first | omega | (simp; done) | (simp; omega) | (simp at *; omega)))))⟩
              · have HE := Lib.hid (show stepTo l a v = (⟨0, a.wt⟩, 3) by rw [HST.out, if_neg (by rw [HLOW.out]; simp), if_neg (by rw [HHI.out]; simp), if_pos ⟨.inl ⟨HS.out, hl⟩, fun h => by rw [hla] at h; cases h.1⟩])
                rw [hl]
                rw [hla] at k2
                clear hl hla
                go_wp2_with fail
                refine bodyPost_ret (v := .tuple #[.agg #[.int .i64 0, .bool a.wt], .int .i64 3]) ?_ ?_ ?_
                · first | (simp [results, Try.results10, go_sem, lr]; done) | (simp [results, Try.results10, go_sem, lr, d0, d1]; done)
                · rfl
                · exact ⟨by rw [HE.out]; rfl, by have hbz := HR.out.1.2.2.2.2; (repeat (first | (with_reducible assumption) | (with_reducible exact Below.refl _ _) | ((with_reducible refine Below.setCell ?_ ?_ _); rotate_left; · (first | omega | (simp; done) | (simp; omega) | (simp at *; omega))) | ((with_reducible refine Below.alloc ?_ ?_ _); rotate_left; · (first | omega | (simp; done) | (simp; omega) | (simp at *; omega))) | (with_reducible refine Below.drew ?_) | (with_reducible refine below_drewN ?_ _) | ((refine Below.trans ?_ (Below.mono (by with_reducible assumption) ?_)); rotate_left; · (first | omega | (simp; done) | (simp; omega) | (simp at *; omega)))))⟩
            · have HBK := Lib.hid hl
              rw [hl]
              clear hl
              go_wp2_with fail
              go_roundg (2 - 1)
              case measure => omega
              case rel => exact .inr (.inl ⟨rfl, rfl, HX.out, fun h => by rw [HBK.out] at h; cases h.2.1⟩)
          · have n1 : (a.st == 1) = false := by rw [beq_eq_false_iff_ne]; exact hs
            have HS := Lib.hid hs
            clear hs
            go_wp2_with fail
            go_roundg (2 - 1)
            case measure => omega
            case rel => exact .inr (.inl ⟨rfl, rfl, HX.out, fun h => HS.out h.1⟩)
        · have HR := Lib.hid hH
          have HC1 := Lib.hid hc1
          clear hH hc1
          obtain ⟨c0, c1, _, _⟩ := HR.out.1.2.1.two
          obtain ⟨d0, d1, d2, d3⟩ := HR.out.1.2.2.1.two
          have lla := HR.out.1.2.1.lt
          have lr := HR.out.1.2.2.1.lt
          have ll := HR.out.1.1.lt
          have k2 := HR.out.1.1.all.2.2.1
          have hbx : Below wr.heap.size wr (wr.alloc (.cells #[.int .i64 2, .int .i64 2, .func (Fn.func 27) #[] #[.pointer (some ⟨g, 0, none⟩)], .func (Fn.func 28) #[] #[.pointer (some ⟨g, 0, none⟩)]] 43)) := by (repeat (first | (with_reducible assumption) | (with_reducible exact Below.refl _ _) | ((with_reducible refine Below.setCell ?_ ?_ _); rotate_left; · (first | omega | (simp; done) | (simp; omega) | (simp at *; omega))) | ((with_reducible refine Below.alloc ?_ ?_ _); rotate_left; · (first | omega | (simp; done) | (simp; omega) | (simp at *; omega))) | (with_reducible refine Below.drew ?_) | (with_reducible refine below_drewN ?_ _) | ((refine Below.trans ?_ (Below.mono (by with_reducible assumption) ?_)); rotate_left; · (first | omega | (simp; done) | (simp; omega) | (simp at *; omega)))))
          have HX := Lib.hid (HR.out.below hbx)
          clear hbx
          by_cases hs : a.st = 2
          · have n1 : (a.st == 2) = true := by rw [beq_iff_eq]; exact hs
            have HS := Lib.hid hs
            clear hs
            go_wp2_with fail
            refine (side4 l g v _ HX.out.1.2.2.2.1 HBD.out.2.1 HBD.out.2.2).mono ?_
            rintro e w3 ⟨rfl, hw3⟩
            subst hw3
            rcases two_bools (l.back2 v) with hl | hl
            · rcases two_bools l.la with hla | hla
              · rcases two_bools a.wt with hwt | hwt
                · have HW := Lib.hid (And.intro hla hwt)
                  rw [hl]
                  rw [hla] at k2
                  rw [hwt] at c1
                  clear hl hla hwt
                  go_wp2_with fail
                  go_roundg (2 - 2)
                  case measure => omega
                  case rel => exact .inr (.inr ⟨rfl, rfl, HX.out, HC1.out, fun h => h.2.2 HW.out⟩)
                · have HE := Lib.hid (show stepTo l a v = (⟨0, a.wt⟩, 3) by rw [HST.out, if_neg (by rw [HLOW.out]; simp), if_neg (by rw [HHI.out]; simp), if_pos ⟨.inr ⟨HS.out, hl⟩, fun h => by rw [hwt] at h; cases h.2⟩])
                  have HW := Lib.hid hwt
                  rw [hl]
                  rw [hla] at k2
                  rw [hwt] at c1
                  clear hl hla hwt
                  go_wp2_with fail
                  refine bodyPost_ret (v := .tuple #[.agg #[.int .i64 0, .bool false], .int .i64 3]) ?_ ?_ ?_
                  · first | (simp [results, Try.results10, go_sem, lr]; done) | (simp [results, Try.results10, go_sem, lr, d0, d1]; done)
                  · rfl
                  · exact ⟨by rw [HE.out, HW.out]; rfl, by have hbz := HR.out.1.2.2.2.2; (repeat (first | (with_reducible assumption) | (with_reducible exact Below.refl _ _) | ((with_reducible refine Below.setCell ?_ ?_ _); rotate_left; · (first | omega | (simp; done) | (simp; omega) | (simp at *; omega))) | ((with_reducible refine Below.alloc ?_ ?_ _); rotate_left; · (first | omega | (simp; done) | (simp; omega) | (simp at *; omega))) | (with_reducible refine Below.drew ?_) | (with_reducible refine below_drewN ?_ _) | ((refine Below.trans ?_ (Below.mono (by with_reducible assumption) ?_)); rotate_left; · (first | omega | (simp; done) | (simp; omega) | (simp at *; omega)))))⟩
              · have HE := Lib.hid (show stepTo l a v = (⟨0, a.wt⟩, 3) by rw [HST.out, if_neg (by rw [HLOW.out]; simp), if_neg (by rw [HHI.out]; simp), if_pos ⟨.inr ⟨HS.out, hl⟩, fun h => by rw [hla] at h; cases h.1⟩])
                rw [hl]
                rw [hla] at k2
                clear hl hla
                go_wp2_with fail
                refine bodyPost_ret (v := .tuple #[.agg #[.int .i64 0, .bool a.wt], .int .i64 3]) ?_ ?_ ?_
                · first | (simp [results, Try.results10, go_sem, lr]; done) | (simp [results, Try.results10, go_sem, lr, d0, d1]; done)
                · rfl
                · exact ⟨by rw [HE.out]; rfl, by have hbz := HR.out.1.2.2.2.2; (repeat (first | (with_reducible assumption) | (with_reducible exact Below.refl _ _) | ((with_reducible refine Below.setCell ?_ ?_ _); rotate_left; · (first | omega | (simp; done) | (simp; omega) | (simp at *; omega))) | ((with_reducible refine Below.alloc ?_ ?_ _); rotate_left; · (first | omega | (simp; done) | (simp; omega) | (simp at *; omega))) | (with_reducible refine Below.drew ?_) | (with_reducible refine below_drewN ?_ _) | ((refine Below.trans ?_ (Below.mono (by with_reducible assumption) ?_)); rotate_left; · (first | omega | (simp; done) | (simp; omega) | (simp at *; omega)))))⟩
            · have HBK := Lib.hid hl
              rw [hl]
              clear hl
              go_wp2_with fail
              go_roundg (2 - 2)
              case measure => omega
              case rel => exact .inr (.inr ⟨rfl, rfl, HX.out, HC1.out, fun h => by rw [HBK.out] at h; cases h.2.1⟩)
          · have n1 : (a.st == 2) = false := by rw [beq_eq_false_iff_ne]; exact hs
            have HS := Lib.hid hs
            clear hs
            go_wp2_with fail
            go_roundg (2 - 2)
            case measure => omega
            case rel => exact .inr (.inr ⟨rfl, rfl, HX.out, HC1.out, fun h => HS.out h.1⟩)
        · have HR := Lib.hid hH
          have HE := Lib.hid (show stepTo l a v = (a, 0) by
            rw [HST.out, if_neg (by rw [HLOW.out]; simp), if_neg (by rw [HHI.out]; simp), if_neg (fun h => by
              rcases h with ⟨⟨h1, h2⟩ | ⟨h1, h2⟩, h3⟩
              · exact hc1 ⟨h1, h2, h3⟩
              · exact hc2 ⟨h1, h2, h3⟩)])
          clear hH hc1 hc2
          obtain ⟨c0, c1, _, _⟩ := HR.out.1.2.1.two
          obtain ⟨d0, d1, d2, d3⟩ := HR.out.1.2.2.1.two
          have lla := HR.out.1.2.1.lt
          have lr := HR.out.1.2.2.1.lt
          have ll := HR.out.1.1.lt
          have k2 := HR.out.1.1.all.2.2.1
          go_wp2_with fail
          refine bodyPost_ret (v := .tuple #[.agg #[.int .i64 a.st, .bool a.wt], .int .i64 0]) ?_ ?_ ?_
          · simp [results, Try.results10, go_sem, d0, d1]
          · rfl
          · exact ⟨by rw [HE.out]; rfl, by have hbz := HR.out.1.2.2.2.2; (repeat (first | (with_reducible assumption) | (with_reducible exact Below.refl _ _) | ((with_reducible refine Below.setCell ?_ ?_ _); rotate_left; · (first | omega | (simp; done) | (simp; omega) | (simp at *; omega))) | ((with_reducible refine Below.alloc ?_ ?_ _); rotate_left; · (first | omega | (simp; done) | (simp; omega) | (simp at *; omega))) | (with_reducible refine Below.drew ?_) | (with_reducible refine below_drewN ?_ _) | ((refine Below.trans ?_ (Below.mono (by with_reducible assumption) ?_)); rotate_left; · (first | omega | (simp; done) | (simp; omega) | (simp at *; omega)))))⟩
end Go.Proofs.Ytgkhdoklbbedpaa
