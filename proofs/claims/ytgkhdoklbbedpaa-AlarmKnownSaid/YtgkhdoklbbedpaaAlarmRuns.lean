/-
  What is proved here: the law AlarmRuns returns true for all it is given. Conditions: none.
-/
import Derived.Test.YtgkhdoklbbedpaaAlmKit
import Derived.Test.YtgkhdoklbbedpaaAlmFacts
import Derived.Deep.CutBlock
import Derived.Deep.Grids
namespace Go.Proofs.Ytgkhdoklbbedpaa
namespace AlarmRuns
open Go.ChangeShapes Go.WideShapes Go.ChangeAt Go.RowKit Go.Deep
attribute [local go_sem high] eq_alm ne_alm eqa_self

/-- a list of bools that came in. -/
def BoolsAt (w : World) (A : Option Addr) (B : Nat → Bool) (n : Nat) : Prop :=
  0 < n → ∃ b off, A = some ⟨b, off, none⟩ ∧ b < w.heap.size ∧ ∀ i, i < n → w.cell? ⟨b, off + i, none⟩ = some (.bool (B i))
theorem open_bools_at {H : Type} {enc : TypeId × Value → H} {W : World} {b0 : Nat} {v : Value} {d : DataW H} {p : List MemPlace}
    (hv : Value.okWide Try.prog W .any b0 38 v) (h : DataW.Trod enc Try.prog W 0 (fun _ => true) true 38 v d p) :
    ∃ (A : Option Addr) (n cap : Nat) (B : Nat → Bool), v = .slice A n cap ∧ n ≤ maxLen ∧ BoolsAt W A B n := by
  obtain ⟨a0, len, cap, rfl⟩ := okWide_slice Try.underlying38 hv
  obtain ⟨fuel, hf⟩ := h
  rcases open_bools Try.underlying38 Try.underlying4 (by kernel_rfl) hf with ⟨hcs, _⟩ | ⟨a, l0, c0, B, hcs, _, hl, hm, _, hc⟩
  · simp only [Value.cells, List.cons.injEq, and_true, Value.slice.injEq] at hcs
    obtain ⟨rfl, rfl, rfl⟩ := hcs
    exact ⟨none, 0, 0, fun _ => false, rfl, by omega, fun h => absurd h (by simp)⟩
  · simp only [Value.cells, List.cons.injEq, and_true, Value.slice.injEq] at hcs
    obtain ⟨rfl, rfl, rfl⟩ := hcs
    refine ⟨some a, len, cap, B, rfl, by omega, fun hp => ?_⟩
    obtain ⟨b, off, spot⟩ := a
    have hspot : spot = none := by simpa [Addr.add] using World.cell?_spot (hc 0 (by omega))
    subst hspot
    refine ⟨b, off, rfl, World.block_lt_of_cell? _ _ (hc 0 (by omega)), fun i hi => ?_⟩
    have := hc i (by omega)
    simpa [Go.WideShapes.add_plain] using this

theorem long_ (l : Lim) (A A' : Option Addr) (n cap n' cap' : Nat) (w : World) (hbig : 65536 < n) :
    Calls Try.prog 7 #[.agg l.cells, .slice A n cap, .slice A' n' cap'] w fun e w' => e = .returned (.bool true) ∧ Below w.heap.size w w' := by
  have hb : (65536 : Int) < (n : Int) := by omega
  have HCL := Lib.hid (show l.cells = #[.bool l.ul, .bool l.uh, .bool l.la, .int .i64 l.lo, .int .i64 l.hi, .int .i64 l.hy] from rfl)
  rw [HCL.out]
  go_enter Try.func7, Try.ntmps7
  go_wp2_with fail
  refine (works_any _).mono ?_
  rintro e w1 ⟨rfl, hb1⟩
  go_wp2
  go_ret
  exact ⟨rfl, by (repeat (first | (with_reducible assumption) | (with_reducible exact Below.refl _ _) | ((with_reducible refine Below.setCell ?_ ?_ _); rotate_left; · (first | omega | (simp; done) | (simp; omega) | (simp at *; omega))) | ((with_reducible refine Below.alloc ?_ ?_ _); rotate_left; · (first | omega | (simp; done) | (simp; omega) | (simp at *; omega))) | (with_reducible refine Below.drew ?_) | (with_reducible refine below_drewN ?_ _) | ((refine Below.trans ?_ (Below.mono (by with_reducible assumption) ?_)); rotate_left; · (first | omega | (simp; done) | (simp; omega) | (simp at *; omega)))))⟩

/-- limits, and two alarms that are the same. -/
def Pair (w : World) (l : Lim) (a : Alm) (wr : World) : Prop := LB wr w.heap.size l ∧ AB wr (w.heap.size + 1) a ∧ AB wr (w.heap.size + 1 + 1) a ∧ Below w.heap.size w wr
theorem Pair.below {w wr w' : World} {l : Lim} {a : Alm} (h : Pair w l a wr) (hb : Below wr.heap.size wr w') : Pair w l a w' :=
  ⟨Blk.below h.1 hb h.1.lt, h.2.1.below hb, h.2.2.1.below hb, h.2.2.2.trans (hb.mono h.2.2.2.size)⟩
theorem Pair.put {w wr : World} {l : Lim} {a r : Alm} (h : Pair w l a wr) :
    Pair w l r ((((wr.setCell ⟨w.heap.size + 1, 0, none⟩ (.int .i64 r.st)).setCell ⟨w.heap.size + 1, 1, none⟩ (.bool r.wt)).setCell ⟨w.heap.size + 1 + 1, 0, none⟩ (.int .i64 r.st)).setCell ⟨w.heap.size + 1 + 1, 1, none⟩ (.bool r.wt)) := by
  obtain ⟨h1, h2, h3, h4⟩ := h
  refine ⟨?_, ?_, ?_, ?_⟩
  · exact Blk.far (p := ⟨w.heap.size + 1 + 1, 1, none⟩) (Blk.far (p := ⟨w.heap.size + 1 + 1, 0, none⟩) (Blk.far (p := ⟨w.heap.size + 1, 1, none⟩) (Blk.far (p := ⟨w.heap.size + 1, 0, none⟩) h1 (by simp) _) (by simp) _) (by show w.heap.size ≠ w.heap.size + 1 + 1; omega) _) (by show w.heap.size ≠ w.heap.size + 1 + 1; omega) _
  · exact Blk.far (p := ⟨w.heap.size + 1 + 1, 1, none⟩) (Blk.far (p := ⟨w.heap.size + 1 + 1, 0, none⟩) (Blk.set_ (Blk.set_ h2 0 _) 1 _) (by simp) _) (by simp) _
  · exact Blk.set_ (Blk.set_ (Blk.far (p := ⟨w.heap.size + 1, 1, none⟩) (Blk.far (p := ⟨w.heap.size + 1, 0, none⟩) h3 (by simp) _) (by simp) _) 0 _) 1 _
  · exact (((h4.setCell (p := ⟨w.heap.size + 1, 0, none⟩) (by simp) _).setCell (p := ⟨w.heap.size + 1, 1, none⟩) (by simp) _).setCell (p := ⟨w.heap.size + 1 + 1, 0, none⟩) (by show w.heap.size ≤ w.heap.size + 1 + 1; omega) _).setCell (p := ⟨w.heap.size + 1 + 1, 1, none⟩) (by show w.heap.size ≤ w.heap.size + 1 + 1; omega) _

set_option maxRecDepth 100000 in
set_option maxHeartbeats 8000000 in
theorem walk (l : Lim) (A : Option Addr) (cap : Nat) (L : List Int) (A' : Option Addr) (n' cap' : Nat) (B : Nat → Bool) (w : World) (hA : IntsAt .i64 w A L) (hB : BoolsAt w A' B n') (hn' : n' ≤ maxLen) :
    Calls Try.prog 7 #[.agg l.cells, .slice A L.length cap, .slice A' n' cap'] w fun e w' => e = .returned (.bool true) ∧ Below w.heap.size w w' := by
  by_cases hbig : 65536 < L.length
  · exact long_ l A A' L.length cap n' cap' w hbig
  have hbi : ¬ (65536 : Int) < (L.length : Int) := by omega
  unfold maxLen at hn'
  have HA := Lib.hid hA
  have HBO := Lib.hid hB
  have HCL := Lib.hid (show l.cells = #[.bool l.ul, .bool l.uh, .bool l.la, .int .i64 l.lo, .int .i64 l.hi, .int .i64 l.hy] from rfl)
  have h0 : Pair w l ⟨0, false⟩ (((w.alloc (.cells #[.bool l.ul, .bool l.uh, .bool l.la, .int .i64 l.lo, .int .i64 l.hi, .int .i64 l.hy] 23)).alloc (.cells #[.int .i64 0, .bool false] 25)).alloc (.cells #[.int .i64 0, .bool false] 25)) := by
    have h1 := Blk.new (w.alloc (.cells #[.bool l.ul, .bool l.uh, .bool l.la, .int .i64 l.lo, .int .i64 l.hi, .int .i64 l.hy] 23)) 25 #[.int .i64 0, .bool false]
    have h2 := Blk.new ((w.alloc (.cells #[.bool l.ul, .bool l.uh, .bool l.la, .int .i64 l.lo, .int .i64 l.hi, .int .i64 l.hy] 23)).alloc (.cells #[.int .i64 0, .bool false] 25)) 25 #[.int .i64 0, .bool false]
    simp only [World.size_alloc] at h1 h2
    exact ⟨((Blk.new w 23 #[.bool l.ul, .bool l.uh, .bool l.la, .int .i64 l.lo, .int .i64 l.hi, .int .i64 l.hy]).alloc _).alloc _, h1.alloc _, h2, by (repeat (first | (with_reducible assumption) | (with_reducible exact Below.refl _ _) | ((with_reducible refine Below.setCell ?_ ?_ _); rotate_left; · (first | omega | (simp; done) | (simp; omega) | (simp at *; omega))) | ((with_reducible refine Below.alloc ?_ ?_ _); rotate_left; · (first | omega | (simp; done) | (simp; omega) | (simp at *; omega))) | (with_reducible refine Below.drew ?_) | (with_reducible refine below_drewN ?_ _) | ((refine Below.trans ?_ (Below.mono (by with_reducible assumption) ?_)); rotate_left; · (first | omega | (simp; done) | (simp; omega) | (simp at *; omega)))))⟩
  have H0 := Lib.hid h0
  rw [HCL.out]
  clear hA hB h0
  go_enter Try.func7, Try.ntmps7
  go_wp2_with fail
  go_loopg [9] L.length (fun gm i wr => ∃ (k : Nat) (a : Alm), k ≤ L.length ∧ gm = L.length - k ∧ i = .int .i64 k ∧ Pair w l a wr)
  case atStart => exact ⟨0, _, Nat.zero_le _, rfl, rfl, H0.out⟩
  case round =>
    clear H0
    obtain ⟨k, a, hk, rfl, rfl, hP⟩ := hrel
    obtain ⟨wz, rfl⟩ : ∃ wq : World, wq = wr := ⟨_, rfl⟩
    have HP := Lib.hid hP
    have hwz := hP.2.2.2.size
    clear hP
    by_cases hlt : k < L.length
    · obtain ⟨bb, off, rfl, hb, hS⟩ := HA.out (by omega)
      have c0 := hS k hlt
      obtain ⟨v, hv⟩ : ∃ v, v = L.getD k 0 := ⟨_, rfl⟩
      rw [← hv] at c0
      have xv := (HP.out.2.2.2.cell (p := ⟨bb, off + k, none⟩) hb).trans c0
      have hki : (k : Int) < (L.length : Int) := by omega
      have hk0 : (0 : Int) ≤ (k : Int) := by omega
      have hbb : bb < wz.heap.size := by omega
      clear hv c0 hS
      obtain ⟨⟨r, n⟩, hr⟩ : ∃ rn, rn = stepTo l a v := ⟨_, rfl⟩
      have HR := Lib.hid hr.symm
      clear hr
      go_upto_region 8 with fail
      go_cut [10, 11] (fun s1 s2 wx => ∃ g, s1 = .pointer (some ⟨g, 0, none⟩) ∧ s2 = .int .i64 n ∧ wz.heap.size ≤ g ∧ AB wx g r ∧ Below wz.heap.size wz wx)
      case first =>
        obtain ⟨k0, k1, k2, k3, k4, k5⟩ := LB.all HP.out.1
        obtain ⟨c0, c1, _, _⟩ := Blk.two HP.out.2.1
        have lk := Blk.lt HP.out.1
        have lc := Blk.lt HP.out.2.1
        go_region_held3 (fun w' => w'.cell? ⟨w.heap.size, 0, none⟩ = some (.bool l.ul) ∧ w'.cell? ⟨w.heap.size, 1, none⟩ = some (.bool l.uh) ∧ w'.cell? ⟨w.heap.size, 2, none⟩ = some (.bool l.la) ∧ w'.cell? ⟨w.heap.size, 3, none⟩ = some (.int .i64 l.lo) ∧ w'.cell? ⟨w.heap.size, 4, none⟩ = some (.int .i64 l.hi) ∧ w'.cell? ⟨w.heap.size, 5, none⟩ = some (.int .i64 l.hy) ∧
            w'.cell? ⟨w.heap.size + 1, 0, none⟩ = some (.int .i64 a.st) ∧ w'.cell? ⟨w.heap.size + 1, 1, none⟩ = some (.bool a.wt) ∧ w'.cell? ⟨bb, off + k, none⟩ = some (.int .i64 v) ∧ wz.heap.size ≤ w'.heap.size ∧ Below wz.heap.size wz w')
          ((go_split_ands; refine keep9 ?_ k0 k1 k2 k3 k4 k5 c0 c1 xv lk lc hbb; (repeat (first | (with_reducible assumption) | (with_reducible exact Below.refl _ _) | ((with_reducible refine Below.setCell ?_ ?_ _); rotate_left; · (first | omega | (simp; done) | (simp; omega) | (simp at *; omega))) | ((with_reducible refine Below.alloc ?_ ?_ _); rotate_left; · (first | omega | (simp; done) | (simp; omega) | (simp at *; omega))) | (with_reducible refine Below.drew ?_) | (with_reducible refine below_drewN ?_ _) | ((refine Below.trans ?_ (Below.mono (by with_reducible assumption) ?_)); rotate_left; · (first | omega | (simp; done) | (simp; omega) | (simp at *; omega)))))))
          (first
            | (go_at_call 10; refine (step_to l ⟨a.st, a.wt⟩ r n v _ HR.out).mono ?_; rintro e w4 ⟨rfl, hb4⟩; (try go_split_ands); (first | (have B4 := ((Blk.new wz 25 #[.int .i64 0, .bool false]).drew).below hb4 (by simp); obtain ⟨q0, q1, q2, q3⟩ := B4.two; have hq4 := B4.lt) | skip); have hk4 : Below wz.heap.size wz w4 := (by (repeat (first | (with_reducible assumption) | (with_reducible exact Below.refl _ _) | ((with_reducible refine Below.setCell ?_ ?_ _); rotate_left; · (first | omega | (simp; done) | (simp; omega) | (simp at *; omega))) | ((with_reducible refine Below.alloc ?_ ?_ _); rotate_left; · (first | omega | (simp; done) | (simp; omega) | (simp at *; omega))) | (with_reducible refine Below.drew ?_) | (with_reducible refine below_drewN ?_ _) | ((refine Below.trans ?_ (Below.mono (by with_reducible assumption) ?_)); rotate_left; · (first | omega | (simp; done) | (simp; omega) | (simp at *; omega)))))); have hs4 := hk4.size))
        all_goals
          go_wp2_with fail
          go_meet
          first
            | exact ⟨w4.heap.size, rfl, rfl, hs4, Blk.new _ _ _, hk4.alloc hs4 _⟩
            | exact ⟨wz.heap.size, rfl, rfl, Nat.le_refl _, Blk.set_ (Blk.set_ B4 0 _) 1 _, (hk4.setCell (p := ⟨wz.heap.size, 0, none⟩) (Nat.le_refl _) _).setCell (p := ⟨wz.heap.size, 1, none⟩) (Nat.le_refl _) _⟩
      obtain ⟨g1, rfl, rfl, hg1, hX, hbx⟩ := hcut
      obtain ⟨wy, rfl⟩ : ∃ wq : World, wq = wc := ⟨_, rfl⟩
      have HP2 := Lib.hid (HP.out.below hbx)
      have HX1 := Lib.hid hX
      have xv2 := (hbx.cell (p := ⟨bb, off + k, none⟩) hbb).trans xv
      have hwy := hbx.size
      have hbb2 : bb < wy.heap.size := by omega
      have hgy := Blk.lt hX
      have hab0 := Blk.lt HP.out.2.2.1
      clear hbx hX xv HP
      go_upto_region 9 with fail
      go_cut [12, 13] (fun s1 s2 wx => ∃ g, s1 = .pointer (some ⟨g, 0, none⟩) ∧ s2 = .int .i64 n ∧ wy.heap.size ≤ g ∧ AB wx g r ∧ Below wy.heap.size wy wx)
      case first =>
        obtain ⟨k0, k1, k2, k3, k4, k5⟩ := LB.all HP2.out.1
        obtain ⟨c0, c1, _, _⟩ := Blk.two HP2.out.2.2.1
        have lk := Blk.lt HP2.out.1
        have lc := Blk.lt HP2.out.2.2.1
        go_region_held3 (fun w' => w'.cell? ⟨w.heap.size, 0, none⟩ = some (.bool l.ul) ∧ w'.cell? ⟨w.heap.size, 1, none⟩ = some (.bool l.uh) ∧ w'.cell? ⟨w.heap.size, 2, none⟩ = some (.bool l.la) ∧ w'.cell? ⟨w.heap.size, 3, none⟩ = some (.int .i64 l.lo) ∧ w'.cell? ⟨w.heap.size, 4, none⟩ = some (.int .i64 l.hi) ∧ w'.cell? ⟨w.heap.size, 5, none⟩ = some (.int .i64 l.hy) ∧
            w'.cell? ⟨w.heap.size + 1 + 1, 0, none⟩ = some (.int .i64 a.st) ∧ w'.cell? ⟨w.heap.size + 1 + 1, 1, none⟩ = some (.bool a.wt) ∧ w'.cell? ⟨bb, off + k, none⟩ = some (.int .i64 v) ∧ wy.heap.size ≤ w'.heap.size ∧ Below wy.heap.size wy w')
          ((go_split_ands; refine keep9 ?_ k0 k1 k2 k3 k4 k5 c0 c1 xv2 lk lc hbb2; (repeat (first | (with_reducible assumption) | (with_reducible exact Below.refl _ _) | ((with_reducible refine Below.setCell ?_ ?_ _); rotate_left; · (first | omega | (simp; done) | (simp; omega) | (simp at *; omega))) | ((with_reducible refine Below.alloc ?_ ?_ _); rotate_left; · (first | omega | (simp; done) | (simp; omega) | (simp at *; omega))) | (with_reducible refine Below.drew ?_) | (with_reducible refine below_drewN ?_ _) | ((refine Below.trans ?_ (Below.mono (by with_reducible assumption) ?_)); rotate_left; · (first | omega | (simp; done) | (simp; omega) | (simp at *; omega)))))))
          (first
            | (go_at_call 14; refine (rstep_to l ⟨a.st, a.wt⟩ r n v _ HR.out).mono ?_; rintro e w4 ⟨rfl, hb4⟩; (try go_split_ands); (first | (have B4 := ((Blk.new wy 25 #[.int .i64 0, .bool false]).drew).below hb4 (by simp); obtain ⟨q0, q1, q2, q3⟩ := B4.two; have hq4 := B4.lt) | skip); have hk4 : Below wy.heap.size wy w4 := (by (repeat (first | (with_reducible assumption) | (with_reducible exact Below.refl _ _) | ((with_reducible refine Below.setCell ?_ ?_ _); rotate_left; · (first | omega | (simp; done) | (simp; omega) | (simp at *; omega))) | ((with_reducible refine Below.alloc ?_ ?_ _); rotate_left; · (first | omega | (simp; done) | (simp; omega) | (simp at *; omega))) | (with_reducible refine Below.drew ?_) | (with_reducible refine below_drewN ?_ _) | ((refine Below.trans ?_ (Below.mono (by with_reducible assumption) ?_)); rotate_left; · (first | omega | (simp; done) | (simp; omega) | (simp at *; omega)))))); have hs4 := hk4.size))
        all_goals
          go_wp2_with fail
          go_meet
          first
            | exact ⟨w4.heap.size, rfl, rfl, hs4, Blk.new _ _ _, hk4.alloc hs4 _⟩
            | exact ⟨wy.heap.size, rfl, rfl, Nat.le_refl _, Blk.set_ (Blk.set_ B4 0 _) 1 _, (hk4.setCell (p := ⟨wy.heap.size, 0, none⟩) (Nat.le_refl _) _).setCell (p := ⟨wy.heap.size, 1, none⟩) (Nat.le_refl _) _⟩
      obtain ⟨g2, rfl, rfl, hg2, hX, hbx⟩ := hcut
      obtain ⟨wx, rfl⟩ : ∃ wq : World, wq = wc := ⟨_, rfl⟩
      have HP3 := Lib.hid (HP2.out.below hbx)
      have HX1' := Lib.hid (HX1.out.below hbx)
      have HX2 := Lib.hid hX
      have hwx := hbx.size
      have hl1 := Blk.lt hX
      have hl2 := Blk.lt HX1'.out
      have hl3 := Blk.lt HP3.out.2.1
      have hl4 := Blk.lt HP3.out.2.2.1
      have hl0 := Blk.lt HP3.out.1
      have hn1 : w.heap.size + 1 ≠ g1 := by omega
      have hn2 : w.heap.size + 1 + 1 ≠ g1 := by omega
      have hn3 : w.heap.size + 1 ≠ g2 := by omega
      have hn4 : w.heap.size + 1 + 1 ≠ g2 := by omega
      have hn5 : g1 ≠ w.heap.size + 1 := by omega
      have hn6 : g2 ≠ w.heap.size + 1 := by omega
      clear hbx hX xv2 HP2 HX1
      obtain ⟨p0, p1, _, _⟩ := Blk.two HX1'.out
      obtain ⟨q0, q1, _, _⟩ := Blk.two HX2.out
      obtain ⟨a0, a1, a2, a3⟩ := Blk.two HP3.out.2.1
      obtain ⟨b0, b1, b2, b3⟩ := Blk.two HP3.out.2.2.1
      have HPP := Lib.hid (HP3.out.put (r := r))
      go_upto_region 14 with fail
      go_cut [67] (fun s67 wy => ∃ bk : Bool, s67 = .bool bk ∧ Pair w l r wy)
      case first =>
        by_cases hkn : k < n'
        · obtain ⟨mb, mo, rfl, hmb, hM⟩ := HBO.out (by omega)
          have m0 := (HPP.out.2.2.2.cell (p := ⟨mb, mo + k, none⟩) hmb).trans (hM k hkn)
          obtain ⟨bk, hbk⟩ : ∃ bk, bk = B k := ⟨_, rfl⟩
          rw [← hbk] at m0
          have hkn' : (k : Int) < (n' : Int) := by omega
          clear hM hbk
          go_wp2_with fail
          go_meet
          exact ⟨_, rfl, HPP.out⟩
        · have hkn' : ¬ (k : Int) < (n' : Int) := by omega
          have hkn'' : decide (k < n') = false := decide_eq_false hkn
          go_wp2_with fail
          go_meet
          exact ⟨_, rfl, HPP.out⟩
      obtain ⟨bk, rfl, hP⟩ := hcut
      obtain ⟨wu, rfl⟩ : ∃ wq : World, wq = wc := ⟨_, rfl⟩
      have HP4 := Lib.hid hP
      clear hP HPP HP3 HX1' HX2 p0 p1 q0 q1 a0 a1 a2 a3 b0 b1 b2 b3 hl0 hl1 hl2 hl3 hl4 hn1 hn2 hn3 hn4 hn5 hn6
      cases bk with
      | false =>
        go_wp2_with fail
        go_roundg (L.length - (k + 1))
        case measure => omega
        case rel => exact ⟨k + 1, r, by omega, rfl, by go_num, HP4.out⟩
      | true =>
        go_upto_region 15 with fail
        go_cut [14, 15] (fun s1 s2 wx => ∃ g, s1 = .pointer (some ⟨g, 0, none⟩) ∧ s2 = .bool r.wt ∧ wu.heap.size ≤ g ∧ AB wx g ⟨r.st, false⟩ ∧ Below wu.heap.size wu wx)
        case first =>
          obtain ⟨c0, c1, _, _⟩ := Blk.two HP4.out.2.1
          go_wp2_with fail
          refine (ack_to r _).mono ?_
          rintro e w3 ⟨rfl, hb3⟩
          go_wp2_with fail
          go_meet
          exact ⟨_, rfl, rfl, hb3.size, Blk.new _ _ _, hb3.alloc hb3.size _⟩
        obtain ⟨h1, rfl, rfl, hg1', hX, hbx⟩ := hcut
        obtain ⟨wt, rfl⟩ : ∃ wq : World, wq = wc := ⟨_, rfl⟩
        have HP5 := Lib.hid (HP4.out.below hbx)
        have HX1 := Lib.hid hX
        have hwt := hbx.size
        have hly := Blk.lt hX
        have hl4 := Blk.lt HP4.out.2.2.1
        clear hbx hX HP4
        go_upto_region 16 with fail
        go_cut [16, 17] (fun s1 s2 wx => ∃ g, s1 = .pointer (some ⟨g, 0, none⟩) ∧ s2 = .bool r.wt ∧ wt.heap.size ≤ g ∧ AB wx g ⟨r.st, false⟩ ∧ Below wt.heap.size wt wx)
        case first =>
          obtain ⟨c0, c1, _, _⟩ := Blk.two HP5.out.2.2.1
          go_wp2_with fail
          refine (rack_to r _).mono ?_
          rintro e w3 ⟨rfl, hb3⟩
          go_wp2_with fail
          go_meet
          exact ⟨_, rfl, rfl, hb3.size, Blk.new _ _ _, hb3.alloc hb3.size _⟩
        obtain ⟨h2, rfl, rfl, hg2', hX, hbx⟩ := hcut
        obtain ⟨ws, rfl⟩ : ∃ wq : World, wq = wc := ⟨_, rfl⟩
        have HP6 := Lib.hid (HP5.out.below hbx)
        have HX1' := Lib.hid (HX1.out.below hbx)
        have HX2 := Lib.hid hX
        have hws := hbx.size
        have hl1 := Blk.lt hX
        have hl2 := Blk.lt HX1'.out
        have hl3 := Blk.lt HP6.out.2.1
        have hl5 := Blk.lt HP6.out.2.2.1
        have hn1 : w.heap.size + 1 ≠ h1 := by omega
        have hn2 : w.heap.size + 1 + 1 ≠ h1 := by omega
        have hn3 : w.heap.size + 1 ≠ h2 := by omega
        have hn4 : w.heap.size + 1 + 1 ≠ h2 := by omega
        have hn5 : h1 ≠ w.heap.size + 1 := by omega
        have hn6 : h2 ≠ w.heap.size + 1 := by omega
        clear hbx hX HP5 HX1
        obtain ⟨p0, p1, _, _⟩ := Blk.two HX1'.out
        obtain ⟨q0, q1, _, _⟩ := Blk.two HX2.out
        obtain ⟨a0, a1, a2, a3⟩ := Blk.two HP6.out.2.1
        obtain ⟨b0, b1, b2, b3⟩ := Blk.two HP6.out.2.2.1
        go_wp2_with fail
        go_roundg (L.length - (k + 1))
        case measure => omega
        case rel => exact ⟨k + 1, ⟨r.st, false⟩, by omega, rfl, by go_num, HP6.out.put (r := ⟨r.st, false⟩)⟩
    · obtain rfl : k = L.length := by omega
      have hki : ¬ (L.length : Int) < (L.length : Int) := by omega
      go_wp2_with fail
      refine (works_any _).mono ?_
      rintro e w2 ⟨rfl, hb2⟩
      go_wp2
      go_ret
      exact ⟨rfl, HP.out.2.2.2.trans (hb2.mono hwz)⟩

theorem own : ownKnob Try.prog.godebug = none := by kernel_rfl

set_option maxRecDepth 100000 in
theorem lifted (os : Os) (started : os.Started) (H : Type) (enc : TypeId × Value → H) :
    ReturnsInHanded {} Try.checked os 7 .any (Rows.alarmRunsSpec.pre6 enc Try.prog Try.f7 Rows.alarmRunsRow.domain false) (Rows.alarmRunsSpec.post enc Try.prog Try.f7 false true false false) := by
  refine law_lifted (C := Try.checked) (tb := 4) own started (by kernel_rfl) Try.func7
    (ChangeSpec.witness6 (enc := enc) (C := Try.checked) false ⟨#[], #[.agg #[.bool false, .bool false, .bool false, .int .i64 0, .int .i64 0, .int .i64 0], .slice none 0 0, .slice none 0 0], []⟩ 8 (by kernel_rfl) (by kernel_rfl) (by kernel_rfl) (by kernel_rfl))
    rfl (by kernel_rfl) (by kernel_rfl) (by kernel_rfl) Try.underlying4 (fun ds h => ?_) ?_
  · rw [show Try.f7.params = #[23, 30, 38] from Try.params7] at h
    match ds, h with
    | [_, _, _], _ => rfl
  · intro W base args ds before hval hA hlt hsz
    rw [show Try.f7.params = #[23, 30, 38] from Try.params7] at hA hval hsz
    obtain ⟨v0, vs0, d0, ds0, p0, q0, hargs, rfl, rfl, h0, r0⟩ := trodAll_cons hA
    obtain ⟨v1, vs1, d1, ds1, p1, q1, rfl, rfl, rfl, h1, r1⟩ := trodAll_cons r0
    obtain ⟨v2, vs2, d2, ds2, p2, q2, rfl, rfl, rfl, h2, r2⟩ := trodAll_cons r1
    obtain ⟨rfl, rfl, rfl⟩ := trodAll_nil r2
    obtain rfl : args = #[v0, v1, v2] := by cases args; simp_all
    obtain ⟨l, rfl, _, _, _⟩ := open_lim (hval 0 _ v0 rfl rfl) h0
    obtain ⟨A, cap, L, rfl, _, _, hS, _⟩ := open_ints_at (t := 30) (e := 3) (k := .i64) (n := 8) Try.underlying30 Try.underlying3 (by kernel_rfl) (by kernel_rfl) (hval 1 _ v1 rfl rfl) h1 hsz (j := 1) rfl rfl
    obtain ⟨A', n', cap', B, rfl, hn', hB⟩ := open_bools_at (hval 2 _ v2 rfl rfl) h2
    exact walk l A cap L A' n' cap' B W hS hB hn'

theorem proved : Rows.AlarmRunsSaid :=
  OpenClaim.holds_of_wide 7 Try.f7 rfl rfl rfl rfl rfl rfl rfl ⟨rfl, rfl, rfl, rfl, rfl⟩ rfl rfl rfl rfl rfl (by kernel_rfl) Try.func7 (by kernel_rfl)
    (of_decide_eq_true (by kernel_rfl)) (by unfold Func.isWrapper; rw [if_neg (of_decide_eq_false (by kernel_rfl))]; exact ⟨rfl, rfl⟩)
    (fun os started H enc _ => lifted os started H enc)
#print axioms proved
end AlarmRuns
end Go.Proofs.Ytgkhdoklbbedpaa
