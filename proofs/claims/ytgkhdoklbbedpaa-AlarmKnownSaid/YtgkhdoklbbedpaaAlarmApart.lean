/-
  What is proved here: the law AlarmApart returns true for all it is given. Conditions: none.
-/
import Derived.Test.YtgkhdoklbbedpaaAlmKit
import Derived.Test.YtgkhdoklbbedpaaAlmFacts
import Derived.Deep.CutBlock
namespace Go.Proofs.Ytgkhdoklbbedpaa
namespace AlarmApart
open Go.ChangeShapes Go.WideShapes Go.ChangeAt Go.RowKit Go.Deep
attribute [local go_sem high] eq_alm ne_alm eqa_self

theorem long_ (l : Lim) (A : Option Addr) (n cap : Nat) (w : World) (hbig : 65536 < n) :
    Calls Try.prog 5 #[.agg l.cells, .slice A n cap] w fun e w' => e = .returned (.bool true) ∧ Below w.heap.size w w' := by
  have hb : (65536 : Int) < (n : Int) := by omega
  have HCL := Lib.hid (show l.cells = #[.bool l.ul, .bool l.uh, .bool l.la, .int .i64 l.lo, .int .i64 l.hi, .int .i64 l.hy] from rfl)
  rw [HCL.out]
  go_enter Try.func5, Try.ntmps5
  go_wp2_with fail
  refine (works_any _).mono ?_
  rintro e w1 ⟨rfl, hb1⟩
  go_wp2
  go_ret
  exact ⟨rfl, by (repeat (first | (with_reducible assumption) | (with_reducible exact Below.refl _ _) | ((with_reducible refine Below.setCell ?_ ?_ _); rotate_left; · (first | omega | (simp; done) | (simp; omega) | (simp at *; omega))) | ((with_reducible refine Below.alloc ?_ ?_ _); rotate_left; · (first | omega | (simp; done) | (simp; omega) | (simp at *; omega))) | (with_reducible refine Below.drew ?_) | (with_reducible refine below_drewN ?_ _) | ((refine Below.trans ?_ (Below.mono (by with_reducible assumption) ?_)); rotate_left; · (first | omega | (simp; done) | (simp; omega) | (simp at *; omega)))))⟩
theorem bad_ (l : Lim) (A : Option Addr) (n cap : Nat) (w : World) (hbig : ¬ 65536 < n) (ho : ¬ l.Ok) :
    Calls Try.prog 5 #[.agg l.cells, .slice A n cap] w fun e w' => e = .returned (.bool true) ∧ Below w.heap.size w w' := by
  have hb : ¬ (65536 : Int) < (n : Int) := by omega
  have HCK := Lib.hid (fun W => check_to l W)
  have HCL := Lib.hid (show l.cells = #[.bool l.ul, .bool l.uh, .bool l.la, .int .i64 l.lo, .int .i64 l.hi, .int .i64 l.hy] from rfl)
  have hx : (l.err != 0) = true := by unfold Lim.err; rw [if_neg ho]; rfl
  rw [HCL.out]
  clear ho
  go_enter Try.func5, Try.ntmps5
  go_wp2_with fail
  refine (HCK.out _).mono ?_
  rintro e w1 ⟨rfl, hb1⟩
  have hw1 := hb1.size; try simp only [World.size_alloc] at hw1
  have hbw1 : Below w.heap.size w w1 := by (repeat (first | (with_reducible assumption) | (with_reducible exact Below.refl _ _) | ((with_reducible refine Below.setCell ?_ ?_ _); rotate_left; · (first | omega | (simp; done) | (simp; omega) | (simp at *; omega))) | ((with_reducible refine Below.alloc ?_ ?_ _); rotate_left; · (first | omega | (simp; done) | (simp; omega) | (simp at *; omega))) | (with_reducible refine Below.drew ?_) | (with_reducible refine below_drewN ?_ _) | ((refine Below.trans ?_ (Below.mono (by with_reducible assumption) ?_)); rotate_left; · (first | omega | (simp; done) | (simp; omega) | (simp at *; omega)))))
  clear hb1
  go_wp2_with fail
  refine (works_any _).mono ?_
  rintro e w2 ⟨rfl, hb2⟩
  go_wp2
  go_ret
  exact ⟨rfl, hbw1.trans (hb2.mono hbw1.size)⟩

set_option maxRecDepth 100000 in
set_option maxHeartbeats 8000000 in
theorem walk (l : Lim) (A : Option Addr) (cap : Nat) (L : List Int) (w : World) (hA : IntsAt .i64 w A L) :
    Calls Try.prog 5 #[.agg l.cells, .slice A L.length cap] w fun e w' => e = .returned (.bool true) ∧ Below w.heap.size w w' := by
  by_cases hbig : 65536 < L.length
  · exact long_ l A L.length cap w hbig
  by_cases ho : l.Ok
  rotate_left
  · exact bad_ l A L.length cap w hbig ho
  have hbi : ¬ (65536 : Int) < (L.length : Int) := by omega
  have HA := Lib.hid hA
  have HOK := Lib.hid ho
  have hx : (l.err != 0) = false := by unfold Lim.err; rw [if_pos ho]; rfl
  have HCK := Lib.hid (fun W => check_to l W)
  have HCL := Lib.hid (show l.cells = #[.bool l.ul, .bool l.uh, .bool l.la, .int .i64 l.lo, .int .i64 l.hi, .int .i64 l.hy] from rfl)
  have HB0 := Lib.hid (Blk.new w 23 #[.bool l.ul, .bool l.uh, .bool l.la, .int .i64 l.lo, .int .i64 l.hi, .int .i64 l.hy])
  rw [HCL.out]
  obtain ⟨b1, b2, b3, b4⟩ := ok_bounds ho
  have y1 := ho.1
  have y2 := ho.2.1
  have HBD := Lib.hid (show (-1099511627776 ≤ l.lo ∧ l.lo ≤ 1099511627776 ∧ -1099511627776 ≤ l.hi ∧ l.hi ≤ 1099511627776) ∧ 0 ≤ l.hy ∧ l.hy ≤ 1099511627776 from ⟨⟨b1, b2, b3, b4⟩, y1, y2⟩)
  clear hA ho b1 b2 b3 b4 y1 y2
  go_enter Try.func5, Try.ntmps5
  go_wp2_with fail
  refine (HCK.out _).mono ?_
  rintro e w1 ⟨rfl, hb1⟩
  have h1 : LB w1 w.heap.size l := Blk.below HB0.out hb1 HB0.out.lt
  have hw1 := hb1.size; try simp only [World.size_alloc] at hw1
  have hbw1 : Below w.heap.size w w1 := by (repeat (first | (with_reducible assumption) | (with_reducible exact Below.refl _ _) | ((with_reducible refine Below.setCell ?_ ?_ _); rotate_left; · (first | omega | (simp; done) | (simp; omega) | (simp at *; omega))) | ((with_reducible refine Below.alloc ?_ ?_ _); rotate_left; · (first | omega | (simp; done) | (simp; omega) | (simp at *; omega))) | (with_reducible refine Below.drew ?_) | (with_reducible refine below_drewN ?_ _) | ((refine Below.trans ?_ (Below.mono (by with_reducible assumption) ?_)); rotate_left; · (first | omega | (simp; done) | (simp; omega) | (simp at *; omega)))))
  have h2 := Blk.new w1 25 #[.int .i64 0, .bool false]
  have H1 := Lib.hid (show LB (w1.alloc (.cells #[.int .i64 0, .bool false] 25)) w.heap.size l ∧ AB (w1.alloc (.cells #[.int .i64 0, .bool false] 25)) w1.heap.size ⟨0, false⟩ ∧ Below w.heap.size w (w1.alloc (.cells #[.int .i64 0, .bool false] 25)) ∧ w.heap.size < w1.heap.size from ⟨h1.alloc _, h2, hbw1.alloc hbw1.size _, by omega⟩)
  clear hb1 h1 h2 hbw1 HB0
  obtain ⟨ga, hga⟩ : ∃ ga, ga = w1.heap.size := ⟨_, rfl⟩
  have HGA := Lib.hid hga
  clear hga
  go_wp2_with fail
  rw [← HGA.out] at H1
  rw [← HGA.out]
  go_loopg [6, 7, 8] L.length (fun gm slo shi i wr => ∃ (k : Nat) (a : Alm) (lo hi : Bool), k ≤ L.length ∧ gm = L.length - k ∧ i = .int .i64 k ∧ slo = .bool lo ∧ shi = .bool hi ∧ Marks l lo hi a ∧ LB wr w.heap.size l ∧ AB wr ga a ∧ Below w.heap.size w wr ∧ w.heap.size < ga)
  case atStart => exact ⟨0, ⟨0, false⟩, true, true, Nat.zero_le _, rfl, rfl, rfl, rfl, ⟨(fun h => by cases h), (fun h => by cases h)⟩, by first | exact H1.out.1 | (rw [← HGA.out]; exact H1.out.1), by first | exact H1.out.2.1 | (rw [← HGA.out]; exact H1.out.2.1), by first | exact H1.out.2.2.1 | (rw [← HGA.out]; exact H1.out.2.2.1), by first | exact H1.out.2.2.2 | (rw [← HGA.out]; exact H1.out.2.2.2)⟩
  case round =>
    clear H1
    obtain ⟨k, a, lo, hi, hk, rfl, rfl, rfl, rfl, hm, hL, hAB, hbw, hlga⟩ := hrel
    obtain ⟨wz, rfl⟩ : ∃ wq : World, wq = wr := ⟨_, rfl⟩
    have HM := Lib.hid hm
    have HL := Lib.hid hL
    have HAB := Lib.hid hAB
    have HBW := Lib.hid hbw
    have hwz := hbw.size
    clear hm hL hAB hbw
    by_cases hlt : k < L.length
    · obtain ⟨bb, off, rfl, hb, hS⟩ := HA.out (by omega)
      have c0 := hS k hlt
      obtain ⟨v, hv⟩ : ∃ v, v = L.getD k 0 := ⟨_, rfl⟩
      rw [← hv] at c0
      have xv := (HBW.out.cell (p := ⟨bb, off + k, none⟩) hb).trans c0
      have hki : (k : Int) < (L.length : Int) := by omega
      have hk0 : (0 : Int) ≤ (k : Int) := by omega
      have hbb : bb < wz.heap.size := by omega
      clear hv c0 hS
      go_upto_region 9 with fail
      go_cut [6] (fun s6 wx => s6 = .bool (lo || decide (l.lo + l.hy < v)) ∧ Below wz.heap.size wz wx)
      case first =>
        obtain ⟨k0, k1, k2, k3, k4, k5⟩ := LB.all HL.out
        obtain ⟨⟨b1, b2, b3, b4⟩, y1, y2⟩ := HBD.out
        have hw1 : IntKind.i64.wrap (l.lo + l.hy) = l.lo + l.hy := IntWalk.i64_in _ (by omega)
        cases lo
        all_goals
          go_quiet (fail)
          go_wp2_with fail
          go_meet
          exact ⟨by simp, by (repeat (first | (with_reducible assumption) | (with_reducible exact Below.refl _ _) | ((with_reducible refine Below.setCell ?_ ?_ _); rotate_left; · (first | omega | (simp; done) | (simp; omega) | (simp at *; omega))) | ((with_reducible refine Below.alloc ?_ ?_ _); rotate_left; · (first | omega | (simp; done) | (simp; omega) | (simp at *; omega))) | (with_reducible refine Below.drew ?_) | (with_reducible refine below_drewN ?_ _) | ((refine Below.trans ?_ (Below.mono (by with_reducible assumption) ?_)); rotate_left; · (first | omega | (simp; done) | (simp; omega) | (simp at *; omega)))))⟩
      obtain ⟨rfl, hbx⟩ := hcut
      obtain ⟨wy, rfl⟩ : ∃ wq : World, wq = wc := ⟨_, rfl⟩
      have HL2 := Lib.hid (Blk.below HL.out hbx (Blk.lt HL.out))
      have HAB2 := Lib.hid (HAB.out.below hbx)
      have HBW2 := Lib.hid (HBW.out.trans (hbx.mono hwz))
      have xv2 := (hbx.cell (p := ⟨bb, off + k, none⟩) hbb).trans xv
      have hwy := hbx.size
      have hbb2 : bb < wy.heap.size := by omega
      clear hbx xv HL HAB HBW
      go_upto_region 10 with fail
      go_cut [7] (fun s7 wx => s7 = .bool (hi || decide (v < l.hi - l.hy)) ∧ Below wy.heap.size wy wx)
      case first =>
        obtain ⟨k0, k1, k2, k3, k4, k5⟩ := LB.all HL2.out
        obtain ⟨⟨b1, b2, b3, b4⟩, y1, y2⟩ := HBD.out
        have hw1 : IntKind.i64.wrap (l.hi - l.hy) = l.hi - l.hy := IntWalk.i64_in _ (by omega)
        cases hi
        all_goals
          go_quiet (fail)
          go_wp2_with fail
          go_meet
          exact ⟨by simp, by (repeat (first | (with_reducible assumption) | (with_reducible exact Below.refl _ _) | ((with_reducible refine Below.setCell ?_ ?_ _); rotate_left; · (first | omega | (simp; done) | (simp; omega) | (simp at *; omega))) | ((with_reducible refine Below.alloc ?_ ?_ _); rotate_left; · (first | omega | (simp; done) | (simp; omega) | (simp at *; omega))) | (with_reducible refine Below.drew ?_) | (with_reducible refine below_drewN ?_ _) | ((refine Below.trans ?_ (Below.mono (by with_reducible assumption) ?_)); rotate_left; · (first | omega | (simp; done) | (simp; omega) | (simp at *; omega)))))⟩
      obtain ⟨rfl, hbx⟩ := hcut
      obtain ⟨wv, rfl⟩ : ∃ wq : World, wq = wc := ⟨_, rfl⟩
      have HL3 := Lib.hid (Blk.below HL2.out hbx (Blk.lt HL2.out))
      have HAB3 := Lib.hid (HAB2.out.below hbx)
      have HBW3 := Lib.hid (HBW2.out.trans (hbx.mono HBW2.out.size))
      have xv3 := (hbx.cell (p := ⟨bb, off + k, none⟩) hbb2).trans xv2
      have hwv := hbx.size
      have hbb3 : bb < wv.heap.size := by omega
      clear hbx xv2 HL2 HAB2 HBW2
      obtain ⟨⟨r, n⟩, hr⟩ : ∃ rn, rn = stepTo l a v := ⟨_, rfl⟩
      have HR := Lib.hid hr.symm
      have HMN := Lib.hid (marks_next HOK.out HM.out hr.symm)
      obtain ⟨lo', hlo'⟩ : ∃ x, x = (lo || decide (l.lo + l.hy < v)) := ⟨_, rfl⟩
      obtain ⟨hi', hhi'⟩ : ∃ x, x = (hi || decide (v < l.hi - l.hy)) := ⟨_, rfl⟩
      rw [← hlo', ← hhi'] at HMN
      rw [← hlo', ← hhi']
      clear hr hlo' hhi'
      go_upto_region 11 with fail
      go_cut [9, 10] (fun s1 s2 wx => ∃ g, s1 = .pointer (some ⟨g, 0, none⟩) ∧ s2 = .int .i64 n ∧ wv.heap.size ≤ g ∧ AB wx g r ∧ Below wv.heap.size wv wx)
      case first =>
        obtain ⟨k0, k1, k2, k3, k4, k5⟩ := LB.all HL3.out
        obtain ⟨c0, c1, _, _⟩ := Blk.two HAB3.out
        have lk := Blk.lt HL3.out
        have lc := Blk.lt HAB3.out
        go_region_held3 (fun w' => w'.cell? ⟨w.heap.size, 0, none⟩ = some (.bool l.ul) ∧ w'.cell? ⟨w.heap.size, 1, none⟩ = some (.bool l.uh) ∧ w'.cell? ⟨w.heap.size, 2, none⟩ = some (.bool l.la) ∧ w'.cell? ⟨w.heap.size, 3, none⟩ = some (.int .i64 l.lo) ∧ w'.cell? ⟨w.heap.size, 4, none⟩ = some (.int .i64 l.hi) ∧ w'.cell? ⟨w.heap.size, 5, none⟩ = some (.int .i64 l.hy) ∧
            w'.cell? ⟨ga, 0, none⟩ = some (.int .i64 a.st) ∧ w'.cell? ⟨ga, 1, none⟩ = some (.bool a.wt) ∧ w'.cell? ⟨bb, off + k, none⟩ = some (.int .i64 v) ∧ wv.heap.size ≤ w'.heap.size ∧ Below wv.heap.size wv w')
          ((go_split_ands; refine keep9 ?_ k0 k1 k2 k3 k4 k5 c0 c1 xv3 lk lc hbb3; (repeat (first | (with_reducible assumption) | (with_reducible exact Below.refl _ _) | ((with_reducible refine Below.setCell ?_ ?_ _); rotate_left; · (first | omega | (simp; done) | (simp; omega) | (simp at *; omega))) | ((with_reducible refine Below.alloc ?_ ?_ _); rotate_left; · (first | omega | (simp; done) | (simp; omega) | (simp at *; omega))) | (with_reducible refine Below.drew ?_) | (with_reducible refine below_drewN ?_ _) | ((refine Below.trans ?_ (Below.mono (by with_reducible assumption) ?_)); rotate_left; · (first | omega | (simp; done) | (simp; omega) | (simp at *; omega)))))))
          (first
            | (go_at_call 10; refine (step_to l ⟨a.st, a.wt⟩ r n v _ HR.out).mono ?_; rintro e w4 ⟨rfl, hb4⟩; (try go_split_ands); (first | (have B4 := ((Blk.new wv 25 #[.int .i64 0, .bool false]).drew).below hb4 (by simp); obtain ⟨q0, q1, q2, q3⟩ := B4.two; have hq4 := B4.lt) | skip); have hk4 : Below wv.heap.size wv w4 := (by (repeat (first | (with_reducible assumption) | (with_reducible exact Below.refl _ _) | ((with_reducible refine Below.setCell ?_ ?_ _); rotate_left; · (first | omega | (simp; done) | (simp; omega) | (simp at *; omega))) | ((with_reducible refine Below.alloc ?_ ?_ _); rotate_left; · (first | omega | (simp; done) | (simp; omega) | (simp at *; omega))) | (with_reducible refine Below.drew ?_) | (with_reducible refine below_drewN ?_ _) | ((refine Below.trans ?_ (Below.mono (by with_reducible assumption) ?_)); rotate_left; · (first | omega | (simp; done) | (simp; omega) | (simp at *; omega)))))); have hs4 := hk4.size))
        all_goals
          go_wp2_with fail
          go_meet
          first
            | exact ⟨w4.heap.size, rfl, rfl, hs4, Blk.new _ _ _, hk4.alloc hs4 _⟩
            | exact ⟨wv.heap.size, rfl, rfl, Nat.le_refl _, Blk.set_ (Blk.set_ B4 0 _) 1 _, (hk4.setCell (p := ⟨wv.heap.size, 0, none⟩) (Nat.le_refl _) _).setCell (p := ⟨wv.heap.size, 1, none⟩) (Nat.le_refl _) _⟩
      obtain ⟨g, rfl, rfl, hg, hX, hbx⟩ := hcut
      obtain ⟨wx, rfl⟩ : ∃ wq : World, wq = wc := ⟨_, rfl⟩
      have HL4 := Lib.hid (Blk.below HL3.out hbx (Blk.lt HL3.out))
      have HAB4 := Lib.hid (HAB3.out.below hbx)
      have HBW4 := Lib.hid (HBW3.out.trans (hbx.mono HBW3.out.size))
      have HX := Lib.hid hX
      have hla := Blk.lt HAB4.out
      have hgx := Blk.lt hX
      have hgv := Blk.lt HAB3.out
      have hne : ga ≠ g := by omega
      clear hX hbx HL3 HAB3 HBW3 xv3
      rcases HMN.out with ⟨rfl, e1, hM⟩ | ⟨rfl, e1, e2, hM⟩ | ⟨rfl, e1, e2, hM⟩ | ⟨rfl, e1, e2, e3⟩
      · subst e1
        have HMQ := Lib.hid hM
        clear hM
        obtain ⟨p0, p1, _, _⟩ := Blk.two HX.out
        obtain ⟨q0, q1, q2, q3⟩ := Blk.two HAB4.out
        go_wp2_with fail
        go_roundg (L.length - (k + 1))
        case measure => omega
        case rel =>
          exact ⟨k + 1, _, _, _, by omega, rfl, by go_num, rfl, rfl, HMQ.out, Blk.far (p := ⟨ga, 1, none⟩) (Blk.far (p := ⟨ga, 0, none⟩) HL4.out (by show w.heap.size ≠ ga; omega) _) (by show w.heap.size ≠ ga; omega) _, Blk.set_ (Blk.set_ HAB4.out 0 _) 1 _, (HBW4.out.setCell (p := ⟨ga, 0, none⟩) (by show w.heap.size ≤ ga; omega) _).setCell (p := ⟨ga, 1, none⟩) (by show w.heap.size ≤ ga; omega) _, hlga⟩
      · subst e1 e2
        have HMQ := Lib.hid hM
        clear hM
        obtain ⟨p0, p1, _, _⟩ := Blk.two HX.out
        obtain ⟨q0, q1, q2, q3⟩ := Blk.two HAB4.out
        go_wp2_with fail
        go_roundg (L.length - (k + 1))
        case measure => omega
        case rel =>
          exact ⟨k + 1, _, _, _, by omega, rfl, by go_num, rfl, rfl, HMQ.out, Blk.far (p := ⟨ga, 1, none⟩) (Blk.far (p := ⟨ga, 0, none⟩) HL4.out (by show w.heap.size ≠ ga; omega) _) (by show w.heap.size ≠ ga; omega) _, Blk.set_ (Blk.set_ HAB4.out 0 _) 1 _, (HBW4.out.setCell (p := ⟨ga, 0, none⟩) (by show w.heap.size ≤ ga; omega) _).setCell (p := ⟨ga, 1, none⟩) (by show w.heap.size ≤ ga; omega) _, hlga⟩
      · subst e1 e2
        have HMQ := Lib.hid hM
        clear hM
        obtain ⟨p0, p1, _, _⟩ := Blk.two HX.out
        obtain ⟨q0, q1, q2, q3⟩ := Blk.two HAB4.out
        go_wp2_with fail
        go_roundg (L.length - (k + 1))
        case measure => omega
        case rel =>
          exact ⟨k + 1, _, _, _, by omega, rfl, by go_num, rfl, rfl, HMQ.out, Blk.far (p := ⟨ga, 1, none⟩) (Blk.far (p := ⟨ga, 0, none⟩) HL4.out (by show w.heap.size ≠ ga; omega) _) (by show w.heap.size ≠ ga; omega) _, Blk.set_ (Blk.set_ HAB4.out 0 _) 1 _, (HBW4.out.setCell (p := ⟨ga, 0, none⟩) (by show w.heap.size ≤ ga; omega) _).setCell (p := ⟨ga, 1, none⟩) (by show w.heap.size ≤ ga; omega) _, hlga⟩
      · subst e1 e2 e3
        have HMQ := Lib.hid (show Marks l true true ⟨0, a.wt⟩ from ⟨(fun h => by cases h), (fun h => by cases h)⟩)
        obtain ⟨p0, p1, _, _⟩ := Blk.two HX.out
        obtain ⟨q0, q1, q2, q3⟩ := Blk.two HAB4.out
        go_wp2_with fail
        go_roundg (L.length - (k + 1))
        case measure => omega
        case rel =>
          exact ⟨k + 1, _, _, _, by omega, rfl, by go_num, rfl, rfl, HMQ.out, Blk.far (p := ⟨ga, 1, none⟩) (Blk.far (p := ⟨ga, 0, none⟩) HL4.out (by show w.heap.size ≠ ga; omega) _) (by show w.heap.size ≠ ga; omega) _, Blk.set_ (Blk.set_ HAB4.out 0 _) 1 _, (HBW4.out.setCell (p := ⟨ga, 0, none⟩) (by show w.heap.size ≤ ga; omega) _).setCell (p := ⟨ga, 1, none⟩) (by show w.heap.size ≤ ga; omega) _, hlga⟩
    · obtain rfl : k = L.length := by omega
      have hki : ¬ (L.length : Int) < (L.length : Int) := by omega
      go_wp2_with fail
      refine (works_any _).mono ?_
      rintro e w2 ⟨rfl, hb2⟩
      go_wp2
      go_ret
      exact ⟨rfl, HBW.out.trans (hb2.mono hwz)⟩

theorem own : ownKnob Try.prog.godebug = none := by kernel_rfl

set_option maxRecDepth 100000 in
theorem lifted (os : Os) (started : os.Started) (H : Type) (enc : TypeId × Value → H) :
    ReturnsInHanded {} Try.checked os 5 .any (Rows.alarmApartSpec.pre6 enc Try.prog Try.f5 Rows.alarmApartRow.domain false) (Rows.alarmApartSpec.post enc Try.prog Try.f5 false true false false) := by
  refine law_lifted (C := Try.checked) (tb := 4) own started (by kernel_rfl) Try.func5
    (ChangeSpec.witness6 (enc := enc) (C := Try.checked) false ⟨#[], #[.agg #[.bool false, .bool false, .bool false, .int .i64 0, .int .i64 0, .int .i64 0], .slice none 0 0], []⟩ 8 (by kernel_rfl) (by kernel_rfl) (by kernel_rfl) (by kernel_rfl))
    rfl (by kernel_rfl) (by kernel_rfl) (by kernel_rfl) Try.underlying4 (fun ds h => ?_) ?_
  · rw [show Try.f5.params = #[23, 30] from Try.params5] at h
    match ds, h with
    | [_, _], _ => rfl
  · intro W base args ds before hval hA hlt hsz
    rw [show Try.f5.params = #[23, 30] from Try.params5] at hA hval hsz
    obtain ⟨v0, vs0, d0, ds0, p0, q0, hargs, rfl, rfl, h0, r0⟩ := trodAll_cons hA
    obtain ⟨v1, vs1, d1, ds1, p1, q1, rfl, rfl, rfl, h1, r1⟩ := trodAll_cons r0
    obtain ⟨rfl, rfl, rfl⟩ := trodAll_nil r1
    obtain rfl : args = #[v0, v1] := by cases args; simp_all
    obtain ⟨l, rfl, _, _, _⟩ := open_lim (hval 0 _ v0 rfl rfl) h0
    obtain ⟨A, cap, L, rfl, _, _, hS, _⟩ := open_ints_at (t := 30) (e := 3) (k := .i64) (n := 8) Try.underlying30 Try.underlying3 (by kernel_rfl) (by kernel_rfl) (hval 1 _ v1 rfl rfl) h1 hsz (j := 1) rfl rfl
    exact walk l A cap L W hS

theorem proved : Rows.AlarmApartSaid :=
  OpenClaim.holds_of_wide 5 Try.f5 rfl rfl rfl rfl rfl rfl rfl ⟨rfl, rfl, rfl, rfl, rfl⟩ rfl rfl rfl rfl rfl (by kernel_rfl) Try.func5 (by kernel_rfl)
    (of_decide_eq_true (by kernel_rfl)) (by unfold Func.isWrapper; rw [if_neg (of_decide_eq_false (by kernel_rfl))]; exact ⟨rfl, rfl⟩)
    (fun os started H enc _ => lifted os started H enc)
#print axioms proved
end AlarmApart
end Go.Proofs.Ytgkhdoklbbedpaa
