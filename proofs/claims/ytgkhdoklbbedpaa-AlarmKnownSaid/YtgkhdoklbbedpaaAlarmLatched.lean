/-
  What is proved here: the law AlarmLatched returns true for all it is given. Conditions: none.
-/
import Derived.Test.YtgkhdoklbbedpaaAlmKit
import Derived.Test.YtgkhdoklbbedpaaAlmFacts
import Derived.Deep.CutBlock
namespace Go.Proofs.Ytgkhdoklbbedpaa
namespace AlarmLatched
open Go.ChangeShapes Go.WideShapes Go.ChangeAt Go.RowKit Go.Deep
attribute [local go_sem high] eq_alm ne_alm eqa_self

theorem long_ (ul uh la : Bool) (lo hi hy : Int) (A : Option Addr) (n cap : Nat) (w : World) (hbig : 65536 < n) :
    Calls Try.prog 8 #[.agg #[.bool ul, .bool uh, .bool la, .int .i64 lo, .int .i64 hi, .int .i64 hy], .slice A n cap] w fun e w' => e = .returned (.bool true) ∧ Below w.heap.size w w' := by
  have hb : (65536 : Int) < (n : Int) := by omega
  go_enter Try.func8, Try.ntmps8
  go_wp2_with fail
  refine (works_any _).mono ?_
  rintro e w1 ⟨rfl, hb1⟩
  go_wp2
  go_ret
  exact ⟨rfl, by (repeat (first | (with_reducible assumption) | (with_reducible exact Below.refl _ _) | ((with_reducible refine Below.setCell ?_ ?_ _); rotate_left; · (first | omega | (simp; done) | (simp; omega) | (simp at *; omega))) | ((with_reducible refine Below.alloc ?_ ?_ _); rotate_left; · (first | omega | (simp; done) | (simp; omega) | (simp at *; omega))) | (with_reducible refine Below.drew ?_) | (with_reducible refine below_drewN ?_ _) | ((refine Below.trans ?_ (Below.mono (by with_reducible assumption) ?_)); rotate_left; · (first | omega | (simp; done) | (simp; omega) | (simp at *; omega)))))⟩
theorem bad_ (ul uh la : Bool) (lo hi hy : Int) (A : Option Addr) (n cap : Nat) (w : World) (hbig : ¬ 65536 < n) (ho : ¬ (Lim.mk ul uh true lo hi hy).Ok) :
    Calls Try.prog 8 #[.agg #[.bool ul, .bool uh, .bool la, .int .i64 lo, .int .i64 hi, .int .i64 hy], .slice A n cap] w fun e w' => e = .returned (.bool true) ∧ Below w.heap.size w w' := by
  have hb : ¬ (65536 : Int) < (n : Int) := by omega
  have HCK := Lib.hid (fun W => check_to ⟨ul, uh, true, lo, hi, hy⟩ W)
  have hx : ((Lim.mk ul uh true lo hi hy).err != 0) = true := by unfold Lim.err; rw [if_neg ho]; rfl
  clear ho
  go_enter Try.func8, Try.ntmps8
  go_wp2_with fail
  refine (HCK.out _).mono ?_
  rintro e w1 ⟨rfl, hb1⟩
  have hw1 := hb1.size; try simp only [World.size_alloc] at hw1
  have hbw1 : Below w.heap.size w w1 := by (repeat (first | (with_reducible assumption) | (with_reducible exact Below.refl _ _) | ((with_reducible refine Below.setCell ?_ ?_ _); rotate_left; · (first | omega | (simp; done) | (simp; omega) | (simp at *; omega))) | ((with_reducible refine Below.alloc ?_ ?_ _); rotate_left; · (first | omega | (simp; done) | (simp; omega) | (simp at *; omega))) | (with_reducible refine Below.drew ?_) | (with_reducible refine below_drewN ?_ _) | ((refine Below.trans ?_ (Below.mono (by with_reducible assumption) ?_)); rotate_left; · (first | omega | (simp; done) | (simp; omega) | (simp at *; omega)))))
  clear hb1
  go_wp2_with fail
  refine (works_any _).mono ?_
  rintro e w2 ⟨rfl, hb2⟩
  go_wp2
  go_ret
  exact ⟨rfl, hbw1.trans (hb2.mono hbw1.size)⟩

set_option maxRecDepth 100000 in
set_option maxHeartbeats 8000000 in
theorem walk (ul uh la : Bool) (lo hi hy : Int) (A : Option Addr) (cap : Nat) (L : List Int) (w : World) (hA : IntsAt .i64 w A L) :
    Calls Try.prog 8 #[.agg #[.bool ul, .bool uh, .bool la, .int .i64 lo, .int .i64 hi, .int .i64 hy], .slice A L.length cap] w fun e w' => e = .returned (.bool true) ∧ Below w.heap.size w w' := by
  by_cases hbig : 65536 < L.length
  · exact long_ ul uh la lo hi hy A L.length cap w hbig
  by_cases ho : (Lim.mk ul uh true lo hi hy).Ok
  rotate_left
  · exact bad_ ul uh la lo hi hy A L.length cap w hbig ho
  have hbi : ¬ (65536 : Int) < (L.length : Int) := by omega
  have HA := Lib.hid hA
  have HOK := Lib.hid ho
  have hx : ((Lim.mk ul uh true lo hi hy).err != 0) = false := by unfold Lim.err; rw [if_pos ho]; rfl
  have HCK := Lib.hid (fun W => check_to ⟨ul, uh, true, lo, hi, hy⟩ W)
  have HB0 := Lib.hid (Blk.new w 23 #[.bool ul, .bool uh, .bool true, .int .i64 lo, .int .i64 hi, .int .i64 hy])
  clear hA ho
  go_enter Try.func8, Try.ntmps8
  go_wp2_with fail
  refine (HCK.out _).mono ?_
  rintro e w1 ⟨rfl, hb1⟩
  have h1 : LB w1 w.heap.size ⟨ul, uh, true, lo, hi, hy⟩ := Blk.below HB0.out hb1 HB0.out.lt
  have hw1 := hb1.size; try simp only [World.size_alloc] at hw1
  have hbw1 : Below w.heap.size w w1 := by (repeat (first | (with_reducible assumption) | (with_reducible exact Below.refl _ _) | ((with_reducible refine Below.setCell ?_ ?_ _); rotate_left; · (first | omega | (simp; done) | (simp; omega) | (simp at *; omega))) | ((with_reducible refine Below.alloc ?_ ?_ _); rotate_left; · (first | omega | (simp; done) | (simp; omega) | (simp at *; omega))) | (with_reducible refine Below.drew ?_) | (with_reducible refine below_drewN ?_ _) | ((refine Below.trans ?_ (Below.mono (by with_reducible assumption) ?_)); rotate_left; · (first | omega | (simp; done) | (simp; omega) | (simp at *; omega)))))
  have h2 := Blk.new w1 25 #[.int .i64 0, .bool false]
  have H1 := Lib.hid (show LB (w1.alloc (.cells #[.int .i64 0, .bool false] 25)) w.heap.size ⟨ul, uh, true, lo, hi, hy⟩ ∧ AB (w1.alloc (.cells #[.int .i64 0, .bool false] 25)) w1.heap.size ⟨0, false⟩ ∧ Below w.heap.size w (w1.alloc (.cells #[.int .i64 0, .bool false] 25)) ∧ w.heap.size < w1.heap.size from ⟨h1.alloc _, h2, hbw1.alloc hbw1.size _, by omega⟩)
  clear hb1 h1 h2 hbw1 HB0
  obtain ⟨ga, hga⟩ : ∃ ga, ga = w1.heap.size := ⟨_, rfl⟩
  have HGA := Lib.hid hga
  clear hga
  go_wp2_with fail
  rw [← HGA.out] at H1
  rw [← HGA.out]
  go_loopg [6, 7] L.length (fun gm sr i wr => ∃ (k : Nat) (a : Alm) (rs : Bool), k ≤ L.length ∧ gm = L.length - k ∧ i = .int .i64 k ∧ sr = .bool rs ∧ Latched rs a ∧ LB wr w.heap.size ⟨ul, uh, true, lo, hi, hy⟩ ∧ AB wr ga a ∧ Below w.heap.size w wr ∧ w.heap.size < ga)
  case atStart => exact ⟨0, ⟨0, false⟩, false, Nat.zero_le _, rfl, rfl, rfl, ⟨(fun _ => rfl), (fun h => by cases h)⟩, by first | exact H1.out.1 | (rw [← HGA.out]; exact H1.out.1), by first | exact H1.out.2.1 | (rw [← HGA.out]; exact H1.out.2.1), by first | exact H1.out.2.2.1 | (rw [← HGA.out]; exact H1.out.2.2.1), by first | exact H1.out.2.2.2 | (rw [← HGA.out]; exact H1.out.2.2.2)⟩
  case round =>
    clear H1
    obtain ⟨k, a, rs, hk, rfl, rfl, rfl, hm, hL, hAB, hbw, hlga⟩ := hrel
    obtain ⟨wz, rfl⟩ : ∃ wq : World, wq = wr := ⟨_, rfl⟩
    have HM := Lib.hid hm
    have HL := Lib.hid hL
    have HAB := Lib.hid hAB
    have HBW := Lib.hid hbw
    have hwz := hbw.size
    clear hm hL hAB hbw
    by_cases hlt : k < L.length
    · obtain ⟨bb, off, rfl, hb, hS⟩ := HA.out (by omega)
      have c0 := hS k hlt
      obtain ⟨v, hv⟩ : ∃ v, v = L.getD k 0 := ⟨_, rfl⟩
      rw [← hv] at c0
      have xv := (HBW.out.cell (p := ⟨bb, off + k, none⟩) hb).trans c0
      have hki : (k : Int) < (L.length : Int) := by omega
      have hk0 : (0 : Int) ≤ (k : Int) := by omega
      have hbb : bb < wz.heap.size := by omega
      clear hv c0 hS
      obtain ⟨⟨r, n⟩, hr⟩ : ∃ rn, rn = stepTo ⟨ul, uh, true, lo, hi, hy⟩ a v := ⟨_, rfl⟩
      have HR := Lib.hid hr.symm
      have HLN := Lib.hid (latched_next (l := ⟨ul, uh, true, lo, hi, hy⟩) rfl HM.out hr.symm)
      clear hr
      go_upto_region 9 with fail
      go_cut [8, 9] (fun s1 s2 wx => ∃ g, s1 = .pointer (some ⟨g, 0, none⟩) ∧ s2 = .int .i64 n ∧ wz.heap.size ≤ g ∧ AB wx g r ∧ Below wz.heap.size wz wx)
      case first =>
        obtain ⟨k0, k1, k2, k3, k4, k5⟩ := LB.all HL.out
        dsimp only at k0 k1 k2 k3 k4 k5
        obtain ⟨c0, c1, _, _⟩ := Blk.two HAB.out
        have lk := Blk.lt HL.out
        have lc := Blk.lt HAB.out
        go_region_held3 (fun w' => w'.cell? ⟨w.heap.size, 0, none⟩ = some (.bool ul) ∧ w'.cell? ⟨w.heap.size, 1, none⟩ = some (.bool uh) ∧ w'.cell? ⟨w.heap.size, 2, none⟩ = some (.bool true) ∧ w'.cell? ⟨w.heap.size, 3, none⟩ = some (.int .i64 lo) ∧ w'.cell? ⟨w.heap.size, 4, none⟩ = some (.int .i64 hi) ∧ w'.cell? ⟨w.heap.size, 5, none⟩ = some (.int .i64 hy) ∧
            w'.cell? ⟨ga, 0, none⟩ = some (.int .i64 a.st) ∧ w'.cell? ⟨ga, 1, none⟩ = some (.bool a.wt) ∧ w'.cell? ⟨bb, off + k, none⟩ = some (.int .i64 v) ∧ wz.heap.size ≤ w'.heap.size ∧ Below wz.heap.size wz w')
          ((go_split_ands; refine keep9 ?_ k0 k1 k2 k3 k4 k5 c0 c1 xv lk lc hbb; (repeat (first | (with_reducible assumption) | (with_reducible exact Below.refl _ _) | ((with_reducible refine Below.setCell ?_ ?_ _); rotate_left; · (first | omega | (simp; done) | (simp; omega) | (simp at *; omega))) | ((with_reducible refine Below.alloc ?_ ?_ _); rotate_left; · (first | omega | (simp; done) | (simp; omega) | (simp at *; omega))) | (with_reducible refine Below.drew ?_) | (with_reducible refine below_drewN ?_ _) | ((refine Below.trans ?_ (Below.mono (by with_reducible assumption) ?_)); rotate_left; · (first | omega | (simp; done) | (simp; omega) | (simp at *; omega)))))))
          (first
            | (go_at_call 10; refine (step_to ⟨ul, uh, true, lo, hi, hy⟩ ⟨a.st, a.wt⟩ r n v _ HR.out).mono ?_; rintro e w4 ⟨rfl, hb4⟩; (try go_split_ands); (first | (have B4 := ((Blk.new wz 25 #[.int .i64 0, .bool false]).drew).below hb4 (by simp); obtain ⟨q0, q1, q2, q3⟩ := B4.two; have hq4 := B4.lt) | skip); have hk4 : Below wz.heap.size wz w4 := (by (repeat (first | (with_reducible assumption) | (with_reducible exact Below.refl _ _) | ((with_reducible refine Below.setCell ?_ ?_ _); rotate_left; · (first | omega | (simp; done) | (simp; omega) | (simp at *; omega))) | ((with_reducible refine Below.alloc ?_ ?_ _); rotate_left; · (first | omega | (simp; done) | (simp; omega) | (simp at *; omega))) | (with_reducible refine Below.drew ?_) | (with_reducible refine below_drewN ?_ _) | ((refine Below.trans ?_ (Below.mono (by with_reducible assumption) ?_)); rotate_left; · (first | omega | (simp; done) | (simp; omega) | (simp at *; omega)))))); have hs4 := hk4.size))
        all_goals
          go_wp2_with fail
          go_meet
          first
            | exact ⟨w4.heap.size, rfl, rfl, hs4, Blk.new _ _ _, hk4.alloc hs4 _⟩
            | exact ⟨wz.heap.size, rfl, rfl, Nat.le_refl _, Blk.set_ (Blk.set_ B4 0 _) 1 _, (hk4.setCell (p := ⟨wz.heap.size, 0, none⟩) (Nat.le_refl _) _).setCell (p := ⟨wz.heap.size, 1, none⟩) (Nat.le_refl _) _⟩
      obtain ⟨g, rfl, rfl, hg, hX, hbx⟩ := hcut
      obtain ⟨wx, rfl⟩ : ∃ wq : World, wq = wc := ⟨_, rfl⟩
      have HL4 := Lib.hid (Blk.below HL.out hbx (Blk.lt HL.out))
      have HAB4 := Lib.hid (HAB.out.below hbx)
      have HBW4 := Lib.hid (HBW.out.trans (hbx.mono hwz))
      have HX := Lib.hid hX
      have hla := Blk.lt HAB4.out
      have hgx := Blk.lt hX
      have hgv := Blk.lt HAB.out
      have hne : ga ≠ g := by omega
      obtain ⟨hn3, hlt'⟩ := HLN.out
      have n3 : (n == 3) = false := by rw [beq_eq_false_iff_ne]; exact hn3
      obtain ⟨rs', hrs'⟩ : ∃ x, x = (rs || n != 0) := ⟨_, rfl⟩
      rw [← hrs'] at hlt'
      have HRS := Lib.hid hrs'
      have HLT := Lib.hid hlt'
      obtain ⟨p0, p1, _, _⟩ := Blk.two HX.out
      obtain ⟨q0, q1, q2, q3⟩ := Blk.two HAB4.out
      clear hX hbx HL HAB HBW xv hn3 hlt' hrs'
      go_upto_region 10 with fail
      go_cut [6] (fun s6 wy => s6 = .bool rs' ∧ wx = wy)
      case first =>
        cases rs
        all_goals
          go_wp2_with fail
          go_meet
          exact ⟨by rw [HRS.out]; simp, rfl⟩
      obtain ⟨rfl, hwy⟩ := hcut
      subst hwy
      cases rs' with
      | false =>
        go_wp2_with fail
        go_roundg (L.length - (k + 1))
        case measure => omega
        case rel =>
          exact ⟨k + 1, r, _, by omega, rfl, by go_num, rfl, HLT.out, Blk.far (p := ⟨ga, 1, none⟩) (Blk.far (p := ⟨ga, 0, none⟩) HL4.out (by show w.heap.size ≠ ga; omega) _) (by show w.heap.size ≠ ga; omega) _, Blk.set_ (Blk.set_ HAB4.out 0 _) 1 _, (HBW4.out.setCell (p := ⟨ga, 0, none⟩) (by show w.heap.size ≤ ga; omega) _).setCell (p := ⟨ga, 1, none⟩) (by show w.heap.size ≤ ga; omega) _, hlga⟩
      | true =>
        have hw := (HLT.out.2 rfl)
        have HRW := Lib.hid hw.1
        have n0 : (r.st == 0) = false := by rw [beq_eq_false_iff_ne]; exact hw.2
        rw [hw.1] at p1
        clear hw
        go_wp2_with fail
        go_roundg (L.length - (k + 1))
        case measure => omega
        case rel =>
          refine ⟨k + 1, r, _, by omega, rfl, by go_num, rfl, HLT.out, Blk.far (p := ⟨ga, 1, none⟩) (Blk.far (p := ⟨ga, 0, none⟩) HL4.out (by show w.heap.size ≠ ga; omega) _) (by show w.heap.size ≠ ga; omega) _, ?_, (HBW4.out.setCell (p := ⟨ga, 0, none⟩) (by show w.heap.size ≤ ga; omega) _).setCell (p := ⟨ga, 1, none⟩) (by show w.heap.size ≤ ga; omega) _, hlga⟩
          unfold AB
          rw [HRW.out]
          exact Blk.set_ (Blk.set_ HAB4.out 0 _) 1 _
    · obtain rfl : k = L.length := by omega
      have hki : ¬ (L.length : Int) < (L.length : Int) := by omega
      obtain ⟨k0, k1, k2, k3, k4, k5⟩ := LB.all HL.out
      dsimp only at k0 k1 k2 k3 k4 k5
      obtain ⟨c0, c1, _, _⟩ := Blk.two HAB.out
      have lk := Blk.lt HL.out
      have lc := Blk.lt HAB.out
      go_wp2_with fail
      refine (ack_to a _).mono ?_
      rintro e w2 ⟨rfl, hb2⟩
      have HL2 := Lib.hid (Blk.below HL.out hb2 lk)
      have HAB2 := Lib.hid (HAB.out.below hb2)
      have HBW2 := Lib.hid (HBW.out.trans (hb2.mono hwz))
      have hs2 := hb2.size
      clear hb2 k0 k1 k2 k3 k4 k5 c0 c1
      obtain ⟨k0, k1, k2, k3, k4, k5⟩ := LB.all HL2.out
      dsimp only at k0 k1 k2 k3 k4 k5
      obtain ⟨c0, c1, _, _⟩ := Blk.two HAB2.out
      have lk2 : w.heap.size < w2.heap.size := by omega
      have lc2 : ga < w2.heap.size := by omega
      cases rs with
      | false =>
        have ha := HM.out.1 rfl
        rw [ha] at c0 c1 ⊢
        clear ha
        go_wp2_with fail
        refine (works_any _).mono ?_
        rintro e w3 ⟨rfl, hb3⟩
        go_wp2_with fail
        go_ret
        exact ⟨rfl, (HBW2.out.alloc HBW2.out.size _).trans (hb3.mono (Nat.le_trans HBW2.out.size (by simp)))⟩
      | true =>
        have ha := HM.out.2 rfl
        rw [ha.1] at c1 ⊢
        clear ha
        rcases (by cases ul <;> simp : ul = true ∨ ul = false) with hu | hu
        · by_cases h1 : a.st = 1
          · rcases (by cases uh <;> simp : uh = true ∨ uh = false) with hh | hh
            · have n1 : (a.st != 1) = false := by rw [bne_eq_false_iff_eq]; exact h1
              rw [hu] at k0
              rw [hh] at k1
              clear h1 hu hh
              go_wp2_with fail
              refine (works_any _).mono ?_
              rintro e w3 ⟨rfl, hb3⟩
              go_wp2_with fail
              go_ret
              exact ⟨rfl, (HBW2.out.alloc HBW2.out.size _).trans (hb3.mono (Nat.le_trans HBW2.out.size (by simp)))⟩
            · have n1 : (a.st != 1) = false := by rw [bne_eq_false_iff_eq]; exact h1
              have hst : stepTo ⟨true, false, true, lo, hi, hy⟩ ⟨1, false⟩ 3298534883328 = (⟨0, false⟩, 3) := by
                have hok := HOK.out
                rw [hu, hh] at hok
                obtain ⟨e1, e2, e3, e4⟩ := ok_bounds hok
                have y1 := hok.1
                have y2 := hok.2.1
                dsimp only at e1 e2 e3 e4 y1 y2
                unfold stepTo
                rw [if_pos ⟨hok, by decide⟩, if_neg (by unfold Lim.low; simp; omega), if_neg (by unfold Lim.high; simp), if_pos ⟨.inl ⟨rfl, by unfold Lim.back1; simp; omega⟩, by simp⟩]
              have HST := Lib.hid hst
              have H1 := Lib.hid h1
              rw [hu] at k0
              rw [hh] at k1
              rw [h1] at c0 ⊢
              clear h1 hu hh hst n1
              go_wp2_with fail
              refine (step_to ⟨true, false, true, lo, hi, hy⟩ ⟨1, false⟩ ⟨0, false⟩ 3 3298534883328 _ HST.out).mono ?_
              rintro e w3 ⟨rfl, hb3⟩
              have HBW3 := Lib.hid ((HBW2.out.alloc HBW2.out.size _).trans (hb3.mono (Nat.le_trans HBW2.out.size (by simp))))
              clear hb3
              go_wp2_with fail
              refine (works_any _).mono ?_
              rintro e w4 ⟨rfl, hb4⟩
              go_wp2_with fail
              go_ret
              exact ⟨rfl, (HBW3.out.alloc HBW3.out.size _).trans (hb4.mono (Nat.le_trans HBW3.out.size (by simp)))⟩
          · have n1 : (a.st != 1) = true := by rw [bne_iff_ne]; exact h1
            rw [hu] at k0
            clear h1 hu
            go_wp2_with fail
            refine (works_any _).mono ?_
            rintro e w3 ⟨rfl, hb3⟩
            go_wp2_with fail
            go_ret
            exact ⟨rfl, (HBW2.out.alloc HBW2.out.size _).trans (hb3.mono (Nat.le_trans HBW2.out.size (by simp)))⟩
        · rw [hu] at k0
          clear hu
          go_wp2_with fail
          refine (works_any _).mono ?_
          rintro e w3 ⟨rfl, hb3⟩
          go_wp2_with fail
          go_ret
          exact ⟨rfl, (HBW2.out.alloc HBW2.out.size _).trans (hb3.mono (Nat.le_trans HBW2.out.size (by simp)))⟩

theorem own : ownKnob Try.prog.godebug = none := by kernel_rfl

set_option maxRecDepth 100000 in
theorem lifted (os : Os) (started : os.Started) (H : Type) (enc : TypeId × Value → H) :
    ReturnsInHanded {} Try.checked os 8 .any (Rows.alarmLatchedSpec.pre6 enc Try.prog Try.f8 Rows.alarmLatchedRow.domain false) (Rows.alarmLatchedSpec.post enc Try.prog Try.f8 false true false false) := by
  refine law_lifted (C := Try.checked) (tb := 4) own started (by kernel_rfl) Try.func8
    (ChangeSpec.witness6 (enc := enc) (C := Try.checked) false ⟨#[], #[.agg #[.bool false, .bool false, .bool false, .int .i64 0, .int .i64 0, .int .i64 0], .slice none 0 0], []⟩ 8 (by kernel_rfl) (by kernel_rfl) (by kernel_rfl) (by kernel_rfl))
    rfl (by kernel_rfl) (by kernel_rfl) (by kernel_rfl) Try.underlying4 (fun ds h => ?_) ?_
  · rw [show Try.f8.params = #[23, 30] from Try.params8] at h
    match ds, h with
    | [_, _], _ => rfl
  · intro W base args ds before hval hA hlt hsz
    rw [show Try.f8.params = #[23, 30] from Try.params8] at hA hval hsz
    obtain ⟨v0, vs0, d0, ds0, p0, q0, hargs, rfl, rfl, h0, r0⟩ := trodAll_cons hA
    obtain ⟨v1, vs1, d1, ds1, p1, q1, rfl, rfl, rfl, h1, r1⟩ := trodAll_cons r0
    obtain ⟨rfl, rfl, rfl⟩ := trodAll_nil r1
    obtain rfl : args = #[v0, v1] := by cases args; simp_all
    obtain ⟨l, rfl, _, _, _⟩ := open_lim (hval 0 _ v0 rfl rfl) h0
    obtain ⟨A, cap, L, rfl, _, _, hS, _⟩ := open_ints_at (t := 30) (e := 3) (k := .i64) (n := 8) Try.underlying30 Try.underlying3 (by kernel_rfl) (by kernel_rfl) (hval 1 _ v1 rfl rfl) h1 hsz (j := 1) rfl rfl
    exact walk l.ul l.uh l.la l.lo l.hi l.hy A cap L W hS

theorem proved : Rows.AlarmLatchedSaid :=
  OpenClaim.holds_of_wide 8 Try.f8 rfl rfl rfl rfl rfl rfl rfl ⟨rfl, rfl, rfl, rfl, rfl⟩ rfl rfl rfl rfl rfl (by kernel_rfl) Try.func8 (by kernel_rfl)
    (of_decide_eq_true (by kernel_rfl)) (by unfold Func.isWrapper; rw [if_neg (of_decide_eq_false (by kernel_rfl))]; exact ⟨rfl, rfl⟩)
    (fun os started H enc _ => lifted os started H enc)
#print axioms proved
end AlarmLatched
end Go.Proofs.Ytgkhdoklbbedpaa
