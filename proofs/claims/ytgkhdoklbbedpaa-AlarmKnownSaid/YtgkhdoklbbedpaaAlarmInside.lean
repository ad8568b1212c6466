/-
  What is proved here: the law AlarmInside returns true for all it is given. Conditions: none.
-/
import Derived.Test.YtgkhdoklbbedpaaAlmKit
import Derived.Test.YtgkhdoklbbedpaaAlmFacts
import Derived.Deep.CutBlock
namespace Go.Proofs.Ytgkhdoklbbedpaa
namespace AlarmInside
open Go.ChangeShapes Go.WideShapes Go.ChangeAt Go.RowKit Go.Deep
attribute [local go_sem high] eq_alm ne_alm eqa_self

theorem inside_any (l : Lim) (v : Int) (w : World) :
    Calls Try.prog 12 #[.agg #[.bool l.ul, .bool l.uh, .bool l.la, .int .i64 l.lo, .int .i64 l.hi, .int .i64 l.hy], .int .i64 v] w fun e w' => e = .returned (.bool (l.inside v)) ∧ Below w.heap.size w w' := by
  have HD := Lib.hid (show l.inside v = ((!l.ul || decide (l.lo < v)) && (!l.uh || decide (v < l.hi))) from rfl)
  rcases two_bools l.ul with h1 | h1
  all_goals
    rcases two_bools l.uh with h2 | h2
    all_goals
      have H1 := Lib.hid h1
      have H2 := Lib.hid h2
      rw [h1, h2]
      clear h1 h2
      cases hc : decide (l.lo < v)
      all_goals
        have HC := Lib.hid hc
        first
          | (have h3 : l.lo < v := of_decide_eq_true hc)
          | (have h3 : ¬ l.lo < v := of_decide_eq_false hc)
        clear hc
        go_enter Try.func12, Try.ntmps12
        go_wp2
        go_ret
        exact ⟨ret_bool (by rw [HD.out, H1.out, H2.out, HC.out]; simp), by (repeat (first | (with_reducible assumption) | (with_reducible exact Below.refl _ _) | ((with_reducible refine Below.setCell ?_ ?_ _); rotate_left; · (first | omega | (simp; done) | (simp; omega) | (simp at *; omega))) | ((with_reducible refine Below.alloc ?_ ?_ _); rotate_left; · (first | omega | (simp; done) | (simp; omega) | (simp at *; omega))) | (with_reducible refine Below.drew ?_) | (with_reducible refine below_drewN ?_ _) | ((refine Below.trans ?_ (Below.mono (by with_reducible assumption) ?_)); rotate_left; · (first | omega | (simp; done) | (simp; omega) | (simp at *; omega)))))⟩

theorem long_ (l : Lim) (b : Bool) (A : Option Addr) (n cap : Nat) (w : World) (hbig : 65536 < n) :
    Calls Try.prog 4 #[.agg l.cells, .slice A n cap, .bool b] w fun e w' => e = .returned (.bool true) ∧ Below w.heap.size w w' := by
  have hb : (65536 : Int) < (n : Int) := by omega
  have HCL := Lib.hid (show l.cells = #[.bool l.ul, .bool l.uh, .bool l.la, .int .i64 l.lo, .int .i64 l.hi, .int .i64 l.hy] from rfl)
  rw [HCL.out]
  go_enter Try.func4, Try.ntmps4
  go_wp2_with fail
  refine (works_any _).mono ?_
  rintro e w1 ⟨rfl, hb1⟩
  go_wp2
  go_ret
  exact ⟨rfl, by (repeat (first | (with_reducible assumption) | (with_reducible exact Below.refl _ _) | ((with_reducible refine Below.setCell ?_ ?_ _); rotate_left; · (first | omega | (simp; done) | (simp; omega) | (simp at *; omega))) | ((with_reducible refine Below.alloc ?_ ?_ _); rotate_left; · (first | omega | (simp; done) | (simp; omega) | (simp at *; omega))) | (with_reducible refine Below.drew ?_) | (with_reducible refine below_drewN ?_ _) | ((refine Below.trans ?_ (Below.mono (by with_reducible assumption) ?_)); rotate_left; · (first | omega | (simp; done) | (simp; omega) | (simp at *; omega)))))⟩

set_option maxRecDepth 100000 in
set_option maxHeartbeats 4000000 in
theorem walk (l : Lim) (A : Option Addr) (cap : Nat) (L : List Int) (b : Bool) (w : World) (hA : IntsAt .i64 w A L) :
    Calls Try.prog 4 #[.agg l.cells, .slice A L.length cap, .bool b] w fun e w' => e = .returned (.bool true) ∧ Below w.heap.size w w' := by
  by_cases hbig : 65536 < L.length
  · exact long_ l b A L.length cap w hbig
  have hbi : ¬ (65536 : Int) < (L.length : Int) := by omega
  have HA := Lib.hid hA
  have HCL := Lib.hid (show l.cells = #[.bool l.ul, .bool l.uh, .bool l.la, .int .i64 l.lo, .int .i64 l.hi, .int .i64 l.hy] from rfl)
  have HB0 := Lib.hid (Blk.new w 23 l.cells)
  rw [HCL.out] at HB0 ⊢
  clear hA
  go_enter Try.func4, Try.ntmps4
  go_wp2_with fail
  have h0 : LB ((w.alloc (.cells #[.bool l.ul, .bool l.uh, .bool l.la, .int .i64 l.lo, .int .i64 l.hi, .int .i64 l.hy] 23)).alloc (.cells #[.int .i64 0, .bool b] 25)) w.heap.size l ∧ AB ((w.alloc (.cells #[.bool l.ul, .bool l.uh, .bool l.la, .int .i64 l.lo, .int .i64 l.hi, .int .i64 l.hy] 23)).alloc (.cells #[.int .i64 0, .bool b] 25)) (w.heap.size + 1) ⟨0, b⟩ ∧ Below w.heap.size w ((w.alloc (.cells #[.bool l.ul, .bool l.uh, .bool l.la, .int .i64 l.lo, .int .i64 l.hi, .int .i64 l.hy] 23)).alloc (.cells #[.int .i64 0, .bool b] 25)) := by
    have h1 := Blk.new (w.alloc (.cells #[.bool l.ul, .bool l.uh, .bool l.la, .int .i64 l.lo, .int .i64 l.hi, .int .i64 l.hy] 23)) 25 #[.int .i64 0, .bool b]
    simp only [World.size_alloc] at h1
    exact ⟨HB0.out.alloc _, h1, by (repeat (first | (with_reducible assumption) | (with_reducible exact Below.refl _ _) | ((with_reducible refine Below.setCell ?_ ?_ _); rotate_left; · (first | omega | (simp; done) | (simp; omega) | (simp at *; omega))) | ((with_reducible refine Below.alloc ?_ ?_ _); rotate_left; · (first | omega | (simp; done) | (simp; omega) | (simp at *; omega))) | (with_reducible refine Below.drew ?_) | (with_reducible refine below_drewN ?_ _) | ((refine Below.trans ?_ (Below.mono (by with_reducible assumption) ?_)); rotate_left; · (first | omega | (simp; done) | (simp; omega) | (simp at *; omega)))))⟩
  have H0 := Lib.hid h0
  clear h0
  go_loopg [8] L.length (fun gm i wr => ∃ k : Nat, k ≤ L.length ∧ gm = L.length - k ∧ i = .int .i64 k ∧ LB wr w.heap.size l ∧ AB wr (w.heap.size + 1) ⟨0, b⟩ ∧ Below w.heap.size w wr)
  case atStart => exact ⟨0, Nat.zero_le _, rfl, rfl, H0.out⟩
  case round =>
    clear H0
    obtain ⟨k, hk, rfl, rfl, hL, hAB, hbw⟩ := hrel
    obtain ⟨wz, rfl⟩ : ∃ wq : World, wq = wr := ⟨_, rfl⟩
    have HL := Lib.hid hL
    have HAB := Lib.hid hAB
    have HBW := Lib.hid hbw
    have hwz := hbw.size
    clear hL hAB hbw
    by_cases hlt : k < L.length
    · obtain ⟨bb, off, rfl, hb, hS⟩ := HA.out (by omega)
      have c0 := hS k hlt
      obtain ⟨v, hv⟩ : ∃ v, v = L.getD k 0 := ⟨_, rfl⟩
      rw [← hv] at c0
      have xv := (HBW.out.cell (p := ⟨bb, off + k, none⟩) hb).trans c0
      have hki : (k : Int) < (L.length : Int) := by omega
      have hk0 : (0 : Int) ≤ (k : Int) := by omega
      have hbb : bb < wz.heap.size := by omega
      clear hv c0 hS
      go_upto_region 7 with fail
      go_cut [29] (fun s29 wx => s29 = .bool (!l.inside v) ∧ Below wz.heap.size wz wx)
      case first =>
        obtain ⟨k0, k1, k2, k3, k4, k5⟩ := LB.all HL.out
        have lk := Blk.lt HL.out
        obtain ⟨c0, c1, _, _⟩ := Blk.two HAB.out
        have lc := Blk.lt HAB.out
        go_region_held3 (fun w' => w'.cell? ⟨w.heap.size, 0, none⟩ = some (.bool l.ul) ∧ w'.cell? ⟨w.heap.size, 1, none⟩ = some (.bool l.uh) ∧ w'.cell? ⟨w.heap.size, 2, none⟩ = some (.bool l.la) ∧ w'.cell? ⟨w.heap.size, 3, none⟩ = some (.int .i64 l.lo) ∧ w'.cell? ⟨w.heap.size, 4, none⟩ = some (.int .i64 l.hi) ∧ w'.cell? ⟨w.heap.size, 5, none⟩ = some (.int .i64 l.hy) ∧
            w'.cell? ⟨w.heap.size + 1, 0, none⟩ = some (.int .i64 0) ∧ w'.cell? ⟨w.heap.size + 1, 1, none⟩ = some (.bool b) ∧ w'.cell? ⟨bb, off + k, none⟩ = some (.int .i64 v) ∧ wz.heap.size ≤ w'.heap.size ∧ Below wz.heap.size wz w')
          ((go_split_ands; refine keep9 ?_ k0 k1 k2 k3 k4 k5 c0 c1 xv lk lc hbb; (repeat (first | (with_reducible assumption) | (with_reducible exact Below.refl _ _) | ((with_reducible refine Below.setCell ?_ ?_ _); rotate_left; · (first | omega | (simp; done) | (simp; omega) | (simp at *; omega))) | ((with_reducible refine Below.alloc ?_ ?_ _); rotate_left; · (first | omega | (simp; done) | (simp; omega) | (simp at *; omega))) | (with_reducible refine Below.drew ?_) | (with_reducible refine below_drewN ?_ _) | ((refine Below.trans ?_ (Below.mono (by with_reducible assumption) ?_)); rotate_left; · (first | omega | (simp; done) | (simp; omega) | (simp at *; omega)))))))
          ((go_at_call 12; refine (inside_any l v _).mono ?_; rintro e w4 ⟨rfl, hb4⟩; (try go_split_ands); have hk4 : Below wz.heap.size wz w4 := (by (repeat (first | (with_reducible assumption) | (with_reducible exact Below.refl _ _) | ((with_reducible refine Below.setCell ?_ ?_ _); rotate_left; · (first | omega | (simp; done) | (simp; omega) | (simp at *; omega))) | ((with_reducible refine Below.alloc ?_ ?_ _); rotate_left; · (first | omega | (simp; done) | (simp; omega) | (simp at *; omega))) | (with_reducible refine Below.drew ?_) | (with_reducible refine below_drewN ?_ _) | ((refine Below.trans ?_ (Below.mono (by with_reducible assumption) ?_)); rotate_left; · (first | omega | (simp; done) | (simp; omega) | (simp at *; omega))))))))
        go_wp2_with fail
        go_meet
        exact ⟨rfl, hk4⟩
      obtain ⟨rfl, hbx⟩ := hcut
      obtain ⟨wy, rfl⟩ : ∃ wq : World, wq = wc := ⟨_, rfl⟩
      have HL2 := Lib.hid (Blk.below HL.out hbx (Blk.lt HL.out))
      have HAB2 := Lib.hid (HAB.out.below hbx)
      have HBW2 := Lib.hid (HBW.out.trans (hbx.mono hwz))
      have xv2 := (hbx.cell (p := ⟨bb, off + k, none⟩) hbb).trans xv
      have hwy := hbx.size
      have hbb2 : bb < wy.heap.size := by omega
      clear hbx xv HL HAB HBW
      rcases two_bools (l.inside v) with hin | hin
      · have HR := Lib.hid (inside_calm (b := b) hin)
        rw [hin]
        clear hin
        go_upto_region 8 with fail
        go_cut [9, 10] (fun s1 s2 wx => ∃ g, s1 = .pointer (some ⟨g, 0, none⟩) ∧ s2 = .int .i64 0 ∧ wy.heap.size ≤ g ∧ AB wx g ⟨0, b⟩ ∧ Below wy.heap.size wy wx)
        case first =>
          obtain ⟨k0, k1, k2, k3, k4, k5⟩ := LB.all HL2.out
          obtain ⟨c0, c1, _, _⟩ := Blk.two HAB2.out
          have lk := Blk.lt HL2.out
          have lc := Blk.lt HAB2.out
          go_region_held3 (fun w' => w'.cell? ⟨w.heap.size, 0, none⟩ = some (.bool l.ul) ∧ w'.cell? ⟨w.heap.size, 1, none⟩ = some (.bool l.uh) ∧ w'.cell? ⟨w.heap.size, 2, none⟩ = some (.bool l.la) ∧ w'.cell? ⟨w.heap.size, 3, none⟩ = some (.int .i64 l.lo) ∧ w'.cell? ⟨w.heap.size, 4, none⟩ = some (.int .i64 l.hi) ∧ w'.cell? ⟨w.heap.size, 5, none⟩ = some (.int .i64 l.hy) ∧
              w'.cell? ⟨w.heap.size + 1, 0, none⟩ = some (.int .i64 0) ∧ w'.cell? ⟨w.heap.size + 1, 1, none⟩ = some (.bool b) ∧ w'.cell? ⟨bb, off + k, none⟩ = some (.int .i64 v) ∧ wy.heap.size ≤ w'.heap.size ∧ Below wy.heap.size wy w')
            ((go_split_ands; refine keep9 ?_ k0 k1 k2 k3 k4 k5 c0 c1 xv2 lk lc hbb2; (repeat (first | (with_reducible assumption) | (with_reducible exact Below.refl _ _) | ((with_reducible refine Below.setCell ?_ ?_ _); rotate_left; · (first | omega | (simp; done) | (simp; omega) | (simp at *; omega))) | ((with_reducible refine Below.alloc ?_ ?_ _); rotate_left; · (first | omega | (simp; done) | (simp; omega) | (simp at *; omega))) | (with_reducible refine Below.drew ?_) | (with_reducible refine below_drewN ?_ _) | ((refine Below.trans ?_ (Below.mono (by with_reducible assumption) ?_)); rotate_left; · (first | omega | (simp; done) | (simp; omega) | (simp at *; omega)))))))
            (first
              | (go_at_call 10; refine (step_to l ⟨0, b⟩ ⟨0, b⟩ 0 v _ HR.out).mono ?_; rintro e w4 ⟨rfl, hb4⟩; (try go_split_ands); (first | (have B4 := ((Blk.new wy 25 #[.int .i64 0, .bool false]).drew).below hb4 (by simp); obtain ⟨q0, q1, q2, q3⟩ := B4.two; have hq4 := B4.lt) | skip); have hk4 : Below wy.heap.size wy w4 := (by (repeat (first | (with_reducible assumption) | (with_reducible exact Below.refl _ _) | ((with_reducible refine Below.setCell ?_ ?_ _); rotate_left; · (first | omega | (simp; done) | (simp; omega) | (simp at *; omega))) | ((with_reducible refine Below.alloc ?_ ?_ _); rotate_left; · (first | omega | (simp; done) | (simp; omega) | (simp at *; omega))) | (with_reducible refine Below.drew ?_) | (with_reducible refine below_drewN ?_ _) | ((refine Below.trans ?_ (Below.mono (by with_reducible assumption) ?_)); rotate_left; · (first | omega | (simp; done) | (simp; omega) | (simp at *; omega)))))); have hs4 := hk4.size))
          all_goals
            go_wp2_with fail
            go_meet
            first
              | exact ⟨w4.heap.size, rfl, rfl, hs4, Blk.new _ _ _, hk4.alloc hs4 _⟩
              | exact ⟨wy.heap.size, rfl, rfl, Nat.le_refl _, Blk.set_ (Blk.set_ B4 0 _) 1 _, (hk4.setCell (p := ⟨wy.heap.size, 0, none⟩) (Nat.le_refl _) _).setCell (p := ⟨wy.heap.size, 1, none⟩) (Nat.le_refl _) _⟩
        obtain ⟨g, rfl, rfl, hg, hX, hbx⟩ := hcut
        obtain ⟨wx, rfl⟩ : ∃ wq : World, wq = wc := ⟨_, rfl⟩
        have HL3 := Lib.hid (Blk.below HL2.out hbx (Blk.lt HL2.out))
        have HAB3 := Lib.hid (HAB2.out.below hbx)
        have HBW3 := Lib.hid (HBW2.out.trans (hbx.mono HBW2.out.size))
        obtain ⟨p0, p1, _, _⟩ := Blk.two hX
        obtain ⟨q0, q1, _, _⟩ := Blk.two HAB3.out
        clear hX hbx HL2 HAB2 HBW2 xv2
        go_wp2_with fail
        go_roundg (L.length - (k + 1))
        case measure => omega
        case rel => exact ⟨k + 1, by omega, rfl, by go_num, HL3.out, HAB3.out, HBW3.out⟩
      · rw [hin]
        clear hin
        go_wp2_with fail
        go_roundg (L.length - (k + 1))
        case measure => omega
        case rel => exact ⟨k + 1, by omega, rfl, by go_num, HL2.out, HAB2.out, HBW2.out⟩
    · obtain rfl : k = L.length := by omega
      have hki : ¬ (L.length : Int) < (L.length : Int) := by omega
      go_wp2_with fail
      refine (works_any _).mono ?_
      rintro e w2 ⟨rfl, hb2⟩
      go_wp2
      go_ret
      exact ⟨rfl, HBW.out.trans (hb2.mono hwz)⟩

theorem own : ownKnob Try.prog.godebug = none := by kernel_rfl

set_option maxRecDepth 100000 in
theorem lifted (os : Os) (started : os.Started) (H : Type) (enc : TypeId × Value → H) :
    ReturnsInHanded {} Try.checked os 4 .any (Rows.alarmInsideSpec.pre6 enc Try.prog Try.f4 Rows.alarmInsideRow.domain false) (Rows.alarmInsideSpec.post enc Try.prog Try.f4 false true false false) := by
  refine law_lifted (C := Try.checked) (tb := 4) own started (by kernel_rfl) Try.func4
    (ChangeSpec.witness6 (enc := enc) (C := Try.checked) false ⟨#[], #[.agg #[.bool false, .bool false, .bool false, .int .i64 0, .int .i64 0, .int .i64 0], .slice none 0 0, .bool false], []⟩ 8 (by kernel_rfl) (by kernel_rfl) (by kernel_rfl) (by kernel_rfl))
    rfl (by kernel_rfl) (by kernel_rfl) (by kernel_rfl) Try.underlying4 (fun ds h => ?_) ?_
  · rw [show Try.f4.params = #[23, 30, 4] from Try.params4] at h
    match ds, h with
    | [_, _, _], _ => rfl
  · intro W base args ds before hval hA hlt hsz
    rw [show Try.f4.params = #[23, 30, 4] from Try.params4] at hA hval hsz
    obtain ⟨v0, vs0, d0, ds0, p0, q0, hargs, rfl, rfl, h0, r0⟩ := trodAll_cons hA
    obtain ⟨v1, vs1, d1, ds1, p1, q1, rfl, rfl, rfl, h1, r1⟩ := trodAll_cons r0
    obtain ⟨v2, vs2, d2, ds2, p2, q2, rfl, rfl, rfl, h2, r2⟩ := trodAll_cons r1
    obtain ⟨rfl, rfl, rfl⟩ := trodAll_nil r2
    obtain rfl : args = #[v0, v1, v2] := by cases args; simp_all
    obtain ⟨l, rfl, _, _, _⟩ := open_lim (hval 0 _ v0 rfl rfl) h0
    obtain ⟨A, cap, L, rfl, _, _, hS, _⟩ := open_ints_at (t := 30) (e := 3) (k := .i64) (n := 8) Try.underlying30 Try.underlying3 (by kernel_rfl) (by kernel_rfl) (hval 1 _ v1 rfl rfl) h1 hsz (j := 1) rfl rfl
    obtain ⟨b, rfl, _⟩ := open_bool Try.underlying4 (hval 2 4 v2 rfl rfl) h2
    exact walk l A cap L b W hS

theorem proved : Rows.AlarmInsideSaid :=
  OpenClaim.holds_of_wide 4 Try.f4 rfl rfl rfl rfl rfl rfl rfl ⟨rfl, rfl, rfl, rfl, rfl⟩ rfl rfl rfl rfl rfl (by kernel_rfl) Try.func4 (by kernel_rfl)
    (of_decide_eq_true (by kernel_rfl)) (by unfold Func.isWrapper; rw [if_neg (of_decide_eq_false (by kernel_rfl))]; exact ⟨rfl, rfl⟩)
    (fun os started H enc _ => lifted os started H enc)
#print axioms proved
end AlarmInside
end Go.Proofs.Ytgkhdoklbbedpaa
