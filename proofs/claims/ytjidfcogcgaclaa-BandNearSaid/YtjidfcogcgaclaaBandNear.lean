/-
  What is proved here: the law BandNear returns true for every band and all points. Conditions: none.
-/
import Derived.Test.YtjidfcogcgaclaaBandFacts
import Derived.Test.YtjidfcogcgaclaaBandOpen
import Derived.Deep.RegionHeld3
import Derived.Deep.DeepCutAuto
import Derived.IntWalk
namespace Go.Proofs.Ytjidfcogcgaclaa
namespace BandNear
open Go.ChangeShapes Go.WideShapes Go.ChangeAt Go.RowKit Go.Deep
attribute [local go_sem high] eq_point ne_point eqp_self

theorem far_no (a b c : Int) (w : World) (ha : I64 a) (hb : I64 b) (hc : I64 c) (h : ¬ max c 0 < dist a b) :
    Calls Try.prog 20 #[.int .i64 a, .int .i64 b, .int .i64 c] w fun e w' => e = .returned (.bool false) ∧ w' = w :=
  (far_any a b c ha hb hc w).mono fun _ _ ⟨he, hw⟩ => ⟨by rw [he, decide_eq_false h], hw⟩

theorem run_len (A : Option Addr) (n ca : Nat) (b : Band) (L : List Point) (m : Nat) (w : World) (hk : n ≤ L.length) (hA : PointsAt w A (L.take n)) (hlen : n * 16 ≤ 140737488351232)
    (hL : ∀ i, i < L.length → I64 (L.getD i p0).v ∧ I64 (L.getD i p0).t) (hd : I64 b.dead) (hq : I64 b.quiet) (hm : (outTo b L n).length = m) :
    Calls Try.prog 14 #[.agg #[.int .i64 b.dead, .int .i64 b.quiet], .slice A n ca] w fun e w' => ∃ A c, e = .returned (.slice A m c) ∧ Below w.heap.size w w' := by
  have hn : (L.take n).length = n := by rw [List.length_take]; omega
  refine (run_at A n ca b (L.take n) (outTo b L n) w hn hA hlen (fun i hi => ?_) hd hq (out_take b L n n (Nat.le_refl _))).mono ?_
  · rw [hn] at hi
    rw [getD_take L n i hi]
    exact hL i (by omega)
  · rintro e w' ⟨A', c', rfl, _, hb⟩
    exact ⟨A', c', by rw [hm], hb⟩
theorem PointsAt.take {w : World} {A : Option Addr} {L : List Point} (h : PointsAt w A L) (n : Nat) : PointsAt w A (L.take n) := by
  intro hp
  rw [List.length_take] at hp
  obtain ⟨b, off, e, hlt, hc⟩ := h (by omega)
  refine ⟨b, off, e, hlt, fun i hi => ?_⟩
  rw [List.length_take] at hi
  rw [getD_take L n i (by omega)]
  exact hc i (by omega)
theorem rising_next {L : List Point} {k : Nat} (h : Rising L k) (hs : k = 0 ∨ (L.getD (k - 1) p0).t ≤ (L.getD k p0).t) : Rising L (k + 1) := by
  intro j hj
  by_cases e : j + 1 < k
  · exact h j e
  · rcases hs with h0 | hs
    · omega
    · obtain rfl : j = k - 1 := by omega
      rw [show k - 1 + 1 = k by omega]
      exact hs

theorem long_ (A : Option Addr) (cap : Nat) (b : Band) (n : Nat) (w : World) (hbig : 2000 < n) :
    Calls Try.prog 5 #[.agg #[.int .i64 b.dead, .int .i64 b.quiet], .slice A n cap] w fun e w' => e = .returned (.bool true) ∧ Below w.heap.size w w' := by
  have hb : (2000 : Int) < (n : Int) := by omega
  go_enter Try.func5, Try.ntmps5
  go_wp2_with fail
  refine (known_any _).mono ?_
  rintro e w1 ⟨rfl, hb1⟩
  have hw1 := hb1.size; try simp only [World.size_alloc] at hw1
  go_wp2
  go_ret
  exact ⟨rfl, by (repeat (first | (with_reducible assumption) | (with_reducible exact Below.refl _ _) | ((with_reducible refine Below.setCell ?_ ?_ _); rotate_left; · (first | omega | (simp; done) | (simp; omega) | (simp at *; omega))) | ((with_reducible refine Below.alloc ?_ ?_ _); rotate_left; · (first | omega | (simp; done) | (simp; omega) | (simp at *; omega))) | (with_reducible refine Below.drew ?_) | (with_reducible refine below_drewN ?_ _) | ((refine Below.trans ?_ (Below.mono (by with_reducible assumption) ?_)); rotate_left; · (first | omega | (simp; done) | (simp; omega) | (simp at *; omega)))))⟩

set_option maxRecDepth 100000 in
set_option maxHeartbeats 4000000 in
theorem walk (A : Option Addr) (cap : Nat) (b : Band) (L : List Point) (w : World) (hA : PointsAt w A L) (hcap : L.length ≤ cap) (hlen : L.length * 16 ≤ 140737488351232)
    (hL : ∀ i, i < L.length → I64 (L.getD i p0).v ∧ I64 (L.getD i p0).t) (hd : I64 b.dead) (hq : I64 b.quiet) :
    Calls Try.prog 5 #[.agg #[.int .i64 b.dead, .int .i64 b.quiet], .slice A L.length cap] w fun e w' => e = .returned (.bool true) ∧ Below w.heap.size w w' := by
  by_cases hbig : 2000 < L.length
  · exact long_ A cap b L.length w hbig
  have hbi : ¬ (2000 : Int) < (L.length : Int) := by omega
  have HA := Lib.hid hA
  have HF := Lib.hid hL
  have HDQ := Lib.hid (And.intro hd hq)
  obtain ⟨O, hO⟩ : ∃ O, O = outTo b L L.length := ⟨_, rfl⟩
  have HO := Lib.hid hO
  clear hA hL hd hq hO
  go_enter Try.func5, Try.ntmps5
  go_wp2_with fail
  refine (run_at A L.length cap b L O _ rfl (HA.out.below ((Below.refl _ _).alloc (Nat.le_refl _) _) (Nat.le_refl _)) hlen HF.out HDQ.out.1 HDQ.out.2 HO.out.symm).mono ?_
  rintro e w1 ⟨Ao, co, rfl, hOat, hb1⟩
  have B1 := (Blk.new w 23 #[.int .i64 b.dead, .int .i64 b.quiet]).below hb1 (by first | omega | (simp; done) | (simp; omega) | (simp at *; omega))
  have hbw1 : Below w.heap.size w w1 := by (repeat (first | (with_reducible assumption) | (with_reducible exact Below.refl _ _) | ((with_reducible refine Below.setCell ?_ ?_ _); rotate_left; · (first | omega | (simp; done) | (simp; omega) | (simp at *; omega))) | ((with_reducible refine Below.alloc ?_ ?_ _); rotate_left; · (first | omega | (simp; done) | (simp; omega) | (simp at *; omega))) | (with_reducible refine Below.drew ?_) | (with_reducible refine below_drewN ?_ _) | ((refine Below.trans ?_ (Below.mono (by with_reducible assumption) ?_)); rotate_left; · (first | omega | (simp; done) | (simp; omega) | (simp at *; omega)))))
  have hl1 := B1.lt
  have HB1 := Lib.hid B1
  have HOAT := Lib.hid hOat
  have HW1 := Lib.hid hbw1
  clear hb1 B1 hOat hbw1
  go_wp2_with fail
  go_loopg [6, 7, 8] L.length (fun g rise kv i wr => ∃ (k : Nat) (r : Bool), k ≤ L.length ∧ g = L.length - k ∧ i = .int .i64 k ∧ rise = .bool r ∧ (r = true → Rising L k) ∧ kv = .int .i64 (outTo b L k).length ∧ Below w1.heap.size w1 wr)
  case atStart => exact ⟨0, true, Nat.zero_le _, rfl, rfl, rfl, fun _ j hj => absurd hj (by omega), rfl, Below.refl _ _⟩
  case round =>
    obtain ⟨k, r, hk, rfl, rfl, rfl, hr, rfl, hbw⟩ := hrel
    have HR := Lib.hid hr
    clear hr
    have hws := hbw.size
    have hl0 : w.heap.size < wr.heap.size := by omega
    by_cases hlt : k < L.length
    · obtain ⟨bb, off, rfl, hb, hS⟩ := HA.out (by omega)
      have hki : (k : Int) < (L.length : Int) := by omega
      have hk0 : (0 : Int) ≤ (k : Int) := by omega
      have hbw0 : Below w.heap.size w wr := HW1.out.trans (hbw.mono (by omega))
      obtain ⟨x, hx⟩ : ∃ x, x = L.getD k p0 := ⟨_, rfl⟩
      obtain ⟨c0, c1⟩ := hS k hlt
      rw [← hx] at c0 c1
      have h0 := (hbw0.cell (p := ⟨bb, off + k * 2, none⟩) hb).trans c0
      have h1 := (hbw0.cell (p := ⟨bb, off + k * 2 + 1, none⟩) hb).trans c1
      have hfx := HF.out k hlt
      rw [← hx] at hfx
      have HX := Lib.hid hx
      obtain ⟨m, hm⟩ : ∃ m, m = (outTo b L k).length := ⟨_, rfl⟩
      rw [← hm]
      have HM := Lib.hid hm
      have HS := Lib.hid hS
      have HBW := Lib.hid hbw
      have HBW0 := Lib.hid hbw0
      clear hm c0 c1 hS hx hbw hbw0
      go_upto_region 9 with fail
      go_cut [6] (fun s6 wx => ∃ r' : Bool, s6 = .bool r' ∧ (r' = true → Rising L (k + 1)) ∧ Below wr.heap.size wr wx)
      case first =>
        cases r with
        | false =>
          go_quiet (fail)
          go_wp2_with fail
          go_meet
          exact ⟨false, rfl, (fun h => by cases h), by (repeat (first | (with_reducible assumption) | (with_reducible exact Below.refl _ _) | ((with_reducible refine Below.setCell ?_ ?_ _); rotate_left; · (first | omega | (simp; done) | (simp; omega) | (simp at *; omega))) | ((with_reducible refine Below.alloc ?_ ?_ _); rotate_left; · (first | omega | (simp; done) | (simp; omega) | (simp at *; omega))) | (with_reducible refine Below.drew ?_) | (with_reducible refine below_drewN ?_ _) | ((refine Below.trans ?_ (Below.mono (by with_reducible assumption) ?_)); rotate_left; · (first | omega | (simp; done) | (simp; omega) | (simp at *; omega)))))⟩
        | true =>
          by_cases hk1 : k = 0
          · subst hk1
            go_quiet (fail)
            go_wp2_with fail
            go_meet
            exact ⟨true, rfl, fun _ => rising_next (HR.out (by first | rfl | trivial)) (.inl rfl), by (repeat (first | (with_reducible assumption) | (with_reducible exact Below.refl _ _) | ((with_reducible refine Below.setCell ?_ ?_ _); rotate_left; · (first | omega | (simp; done) | (simp; omega) | (simp at *; omega))) | ((with_reducible refine Below.alloc ?_ ?_ _); rotate_left; · (first | omega | (simp; done) | (simp; omega) | (simp at *; omega))) | (with_reducible refine Below.drew ?_) | (with_reducible refine below_drewN ?_ _) | ((refine Below.trans ?_ (Below.mono (by with_reducible assumption) ?_)); rotate_left; · (first | omega | (simp; done) | (simp; omega) | (simp at *; omega)))))⟩
          · have hkz : ((k : Int) == 0) = false := by rw [beq_eq_false_iff_ne]; omega
            obtain ⟨j, hj⟩ : ∃ j, k = j + 1 := ⟨k - 1, by omega⟩
            have hkj : (k : Int) - 1 = (j : Int) := by omega
            have hj0 : (0 : Int) ≤ (j : Int) := by omega
            have hjl : (j : Int) < (L.length : Int) := by omega
            obtain ⟨y, hy⟩ : ∃ y, y = L.getD j p0 := ⟨_, rfl⟩
            have d1 := (HS.out j (by omega)).2
            rw [← hy] at d1
            have e1 := (HBW0.out.cell (p := ⟨bb, off + j * 2 + 1, none⟩) hb).trans d1
            have HJ := Lib.hid hj
            have HY := Lib.hid hy
            clear hj hy d1 hk1
            by_cases hle : y.t ≤ x.t
            · go_quiet (fail)
              go_wp2_with fail
              go_meet
              refine ⟨true, rfl, fun _ => rising_next (HR.out (by first | rfl | trivial)) (.inr ?_), by (repeat (first | (with_reducible assumption) | (with_reducible exact Below.refl _ _) | ((with_reducible refine Below.setCell ?_ ?_ _); rotate_left; · (first | omega | (simp; done) | (simp; omega) | (simp at *; omega))) | ((with_reducible refine Below.alloc ?_ ?_ _); rotate_left; · (first | omega | (simp; done) | (simp; omega) | (simp at *; omega))) | (with_reducible refine Below.drew ?_) | (with_reducible refine below_drewN ?_ _) | ((refine Below.trans ?_ (Below.mono (by with_reducible assumption) ?_)); rotate_left; · (first | omega | (simp; done) | (simp; omega) | (simp at *; omega)))))⟩
              rw [← HX.out, show k - 1 = j by have := HJ.out; omega, ← HY.out]; exact hle
            · have hle' : decide (y.t ≤ x.t) = false := decide_eq_false hle
              go_quiet (fail)
              go_wp2_with fail
              go_meet
              exact ⟨false, rfl, (fun h => by cases h), by (repeat (first | (with_reducible assumption) | (with_reducible exact Below.refl _ _) | ((with_reducible refine Below.setCell ?_ ?_ _); rotate_left; · (first | omega | (simp; done) | (simp; omega) | (simp at *; omega))) | ((with_reducible refine Below.alloc ?_ ?_ _); rotate_left; · (first | omega | (simp; done) | (simp; omega) | (simp at *; omega))) | (with_reducible refine Below.drew ?_) | (with_reducible refine below_drewN ?_ _) | ((refine Below.trans ?_ (Below.mono (by with_reducible assumption) ?_)); rotate_left; · (first | omega | (simp; done) | (simp; omega) | (simp at *; omega)))))⟩
      case rest =>
        obtain ⟨r', rfl, hr', hbc⟩ := hcut
        obtain ⟨wq, rfl⟩ : ∃ wq : World, wq = wc := ⟨_, rfl⟩
        have HR' := Lib.hid hr'
        have hwc := hbc.size
        have hbcw : Below w1.heap.size w1 wq := HBW.out.trans (hbc.mono hws)
        have hlc : w.heap.size < wq.heap.size := by omega
        have HBC := Lib.hid hbcw
        clear hr' hbc hbcw HR HBW HBW0 h0 h1
        obtain ⟨e0, e1, _, _⟩ := (HB1.out.below HBC.out hl1).two
        have hPA : PointsAt wq (some ⟨bb, off, none⟩) L := HA.out.below (HW1.out.trans (HBC.out.mono (by omega))) (Nat.le_refl _)
        obtain ⟨m', hm'⟩ : ∃ m', m' = (outTo b L (k + 1)).length := ⟨_, rfl⟩
        have hcapk : ((k : Int) + 1).toNat = k + 1 := by omega
        have hcapi : (k : Int) + 1 ≤ (cap : Int) := by omega
        have HPA := Lib.hid hPA
        have HM' := Lib.hid hm'
        have HCK := Lib.hid hcapk
        clear hPA hm' hcapk
        go_upto_region 10 with fail
        go_cut [9] (fun s9 wx => s9 = .int .i64 (m' : Int) ∧ Below wq.heap.size wq wx)
        case first =>
          have hk1 : (0 : Int) ≤ (k : Int) + 1 := by omega
          have hkl : (k : Int) + 1 ≤ (L.length : Int) := by omega
          have hwr : IntKind.i64.wrap ((k : Int) + 1) = (k : Int) + 1 := IntWalk.i64_in _ (by omega)
          have hck := HCK.out
          go_region_held3 (fun w' => w'.cell? ⟨w.heap.size, 0, none⟩ = some (.int .i64 b.dead) ∧ w'.cell? ⟨w.heap.size, 1, none⟩ = some (.int .i64 b.quiet) ∧ Below wq.heap.size wq w')
            (first
              | exact ⟨e0, e1, (Below.refl _ _).drew⟩
              | (go_split_ands
                 refine ⟨(hb.cell (p := ⟨w.heap.size, 0, none⟩) (by show w.heap.size < wq.heap.size; omega)).trans (by assumption), (hb.cell (p := ⟨w.heap.size, 1, none⟩) (by show w.heap.size < wq.heap.size; omega)).trans (by assumption), Below.trans (by assumption) (hb.mono (Below.size (by assumption)))⟩))
            ((go_at_call 14; refine (run_len _ (k + 1) _ b L m' _ (by omega) (BandNear.PointsAt.take (HPA.out.below (Below.refl wq.heap.size wq).drew (Nat.le_refl _)) (k + 1)) (by omega) HF.out HDQ.out.1 HDQ.out.2 HM'.out.symm).mono ?_; rintro e w' ⟨A', c', rfl, hb⟩))
          go_wp2_with fail
          go_meet
          go_split_ands
          exact ⟨rfl, by assumption⟩
        case rest =>
          obtain ⟨rfl, hbd⟩ := hcut
          obtain ⟨wd, rfl⟩ : ∃ wd : World, wd = wc := ⟨_, rfl⟩
          have hwd := hbd.size
          have hbdw : Below w1.heap.size w1 wd := HBC.out.trans (hbd.mono (by omega))
          have HBD := Lib.hid hbdw
          clear hbd e0 e1 HPA HCK hcapi hbdw
          obtain ⟨hl1', hl2', hl3'⟩ := held_last b L (k + 1) (by omega)
          have hnear := near_held b L k
          have hsoon := soon_held b L k
          have htc := told_count b L k
          have hle := out_le b L (show k + 1 ≤ L.length by omega)
          have hgd := fun j hj => out_getD b L (k := k + 1) (n := L.length) (j := j) (by omega) hj
          have hfh := held_fit b L HF.out (k + 1) (by omega)
          rw [← HM'.out] at hl2' hl3' htc hle hgd
          rw [← HM.out, ← HX.out] at htc
          rw [← HO.out] at hle hgd
          rw [← HX.out] at hnear hsoon
          obtain ⟨h, hh⟩ : ∃ h, h = heldTo b L (k + 1) := ⟨_, rfl⟩
          rw [← hh] at hnear hsoon hfh hl3'
          obtain ⟨j, hj⟩ : ∃ j, m' = j + 1 := ⟨m' - 1, by omega⟩
          have hoj : O.getD j p0 = ⟨h.v, h.t⟩ := by
            rw [hgd j (by omega), show j = m' - 1 by omega]; exact hl3'
          have hom : m' = m + 1 → O.getD m p0 = x := by
            intro e
            rw [hgd m (by omega)]
            rcases htc with h1 | ⟨_, h2⟩
            · omega
            · exact h2
          have hmm : m' = m ∨ m' = m + 1 := by rcases htc with h1 | ⟨h1, _⟩ <;> omega
          have HOJ := Lib.hid hoj
          have HOM := Lib.hid hom
          have HN := Lib.hid hnear
          have HSN := Lib.hid hsoon
          have HJ := Lib.hid hj
          have hjO : j < O.length := by omega
          have hmO : m' = m + 1 → m < O.length := by omega
          clear hl1' hl2' hl3' hnear hsoon htc hgd hh hoj hom hj
          have hmB : (m : Int) ≤ 2000 := by have h1 := out_len b L k; have h2 := HM.out; omega
          have hwm : IntKind.i64.wrap ((m : Int) + 1) = (m : Int) + 1 := IntWalk.i64_in _ (by omega)
          have n2 : decide ((O.length : Int) < (m' : Int)) = false := decide_eq_false (by omega)
          have n2' : decide (O.length < m') = false := decide_eq_false (by omega)
          have n3 : ((m' : Int) == 0) = false := by rw [beq_eq_false_iff_ne]; have := HJ.out; omega
          obtain ⟨ob, oo, rfl, hob, hO⟩ := HOAT.out (by omega)
          have hcO : ∀ i, i < O.length → wd.cell? ⟨ob, oo + i * 2, none⟩ = some (.int .i64 (O.getD i p0).v) ∧ wd.cell? ⟨ob, oo + i * 2 + 1, none⟩ = some (.int .i64 (O.getD i p0).t) := fun i hi =>
            ⟨(HBD.out.cell (p := ⟨ob, oo + i * 2, none⟩) hob).trans (hO i hi).1, (HBD.out.cell (p := ⟨ob, oo + i * 2 + 1, none⟩) hob).trans (hO i hi).2⟩
          have hbwd : Below w.heap.size w wd := HW1.out.trans (HBD.out.mono (by omega))
          obtain ⟨c0, c1⟩ := HS.out k hlt
          rw [← HX.out] at c0 c1
          have h0 := (hbwd.cell (p := ⟨bb, off + k * 2, none⟩) hb).trans c0
          have h1 := (hbwd.cell (p := ⟨bb, off + k * 2 + 1, none⟩) hb).trans c1
          obtain ⟨e0, e1, _, _⟩ := (HB1.out.below HBD.out hl1).two
          have hld : w.heap.size < wd.heap.size := by omega
          have HOB := Lib.hid hO
          clear hO c0 c1 hbwd
          rcases hmm with e | e
          · have n1 : ((m' : Int) != (m : Int)) = false := by rw [bne_eq_false_iff_eq]; omega
            have n4 : ((m' : Int) == (m : Int) + 1) = false := by rw [beq_eq_false_iff_ne]; omega
            have hjB : (j : Int) ≤ 2001 := by have := HJ.out; omega
            have HCO := Lib.hid (hcO j hjO)
            clear e hmO hcO
            have hjm : (m' : Int) - 1 = (j : Int) := by have := HJ.out; omega
            have hj0 : (0 : Int) ≤ (j : Int) := by omega
            have hji : (j : Int) < (O.length : Int) := by omega
            go_upto_region 13 with fail
            go_cut [83] (fun s83 wx => s83 = .bool false ∧ Below wd.heap.size wd wx)
            case first =>
              go_quiet (fail)
              go_wp2_with fail
              go_meet
              exact ⟨rfl, by (repeat (first | (with_reducible assumption) | (with_reducible exact Below.refl _ _) | ((with_reducible refine Below.setCell ?_ ?_ _); rotate_left; · (first | omega | (simp; done) | (simp; omega) | (simp at *; omega))) | ((with_reducible refine Below.alloc ?_ ?_ _); rotate_left; · (first | omega | (simp; done) | (simp; omega) | (simp at *; omega))) | (with_reducible refine Below.drew ?_) | (with_reducible refine below_drewN ?_ _) | ((refine Below.trans ?_ (Below.mono (by with_reducible assumption) ?_)); rotate_left; · (first | omega | (simp; done) | (simp; omega) | (simp at *; omega)))))⟩
            obtain ⟨rfl, hbe⟩ := hcut
            obtain ⟨we, rfl⟩ : ∃ we : World, we = wc := ⟨_, rfl⟩
            have hwe := hbe.size
            have HBE := Lib.hid hbe
            have v0 := (hbe.cell (p := ⟨ob, oo + j * 2, none⟩) (by show ob < _; omega)).trans HCO.out.1
            have v1 := (hbe.cell (p := ⟨ob, oo + j * 2 + 1, none⟩) (by show ob < _; omega)).trans HCO.out.2
            rw [HOJ.out] at v0 v1
            dsimp only at v0 v1
            have h0' := (hbe.cell (p := ⟨bb, off + k * 2, none⟩) (by show bb < _; omega)).trans h0
            have h1' := (hbe.cell (p := ⟨bb, off + k * 2 + 1, none⟩) (by show bb < _; omega)).trans h1
            have e0' := (hbe.cell (p := ⟨w.heap.size, 0, none⟩) (by show w.heap.size < _; omega)).trans e0
            have e1' := (hbe.cell (p := ⟨w.heap.size, 1, none⟩) (by show w.heap.size < _; omega)).trans e1
            have hle' : w.heap.size < we.heap.size := by omega
            have hlb' : bb < we.heap.size := by omega
            clear hbe h0 h1 e0 e1 n1 n4 n2 n2' n3
            cases r' with
            | false =>
              have HFAR := Lib.hid (And.intro (fun W => far_no x.v h.v b.dead W hfx.1 hfh.1 HDQ.out.1 HN.out) True.intro)
              go_wp2_with fail
              go_quiet ((first | (go_at_call_of 20 (Value.int .i64 x.v); exact Calls.quiet_of_same (HFAR.out.1 _)) | (go_at_call_of 20 (Value.int .i64 x.t); exact Calls.quiet_of_same (HFAR.out.2 _))))
              go_wp2_with fail
              go_roundg (L.length - (k + 1))
              case measure => omega
              case rel => exact ⟨k + 1, _, by omega, rfl, by go_num, rfl, (by first | exact HR'.out | exact fun _ => HR'.out trivial | exact fun h => by cases h), by rw [HM'.out], by have hbd := HBD.out.trans (HBE.out.mono (by omega)); (repeat (first | (with_reducible assumption) | (with_reducible exact Below.refl _ _) | ((with_reducible refine Below.setCell ?_ ?_ _); rotate_left; · (first | omega | (simp; done) | (simp; omega) | (simp at *; omega))) | ((with_reducible refine Below.alloc ?_ ?_ _); rotate_left; · (first | omega | (simp; done) | (simp; omega) | (simp at *; omega))) | (with_reducible refine Below.drew ?_) | (with_reducible refine below_drewN ?_ _) | ((refine Below.trans ?_ (Below.mono (by with_reducible assumption) ?_)); rotate_left; · (first | omega | (simp; done) | (simp; omega) | (simp at *; omega)))))⟩
            | true =>
              cases hq0 : decide (0 < b.quiet) with
              | true =>
                have hqp : 0 < b.quiet := of_decide_eq_true hq0
                have hfq1 : I64 (b.quiet - 1) := by have h1 := HDQ.out.2; unfold I64 at h1 ⊢; omega
                have hwq1 : IntKind.i64.wrap (b.quiet - 1) = b.quiet - 1 := IntWalk.i64_in _ (by unfold I64 at hfq1; omega)
                have hsn := HSN.out (HR'.out (by first | rfl | trivial)) hqp
                have HFAR := Lib.hid (And.intro (fun W => far_no x.v h.v b.dead W hfx.1 hfh.1 HDQ.out.1 HN.out) (fun W => far_no x.t h.t (b.quiet - 1) W hfx.2 hfh.2 hfq1 hsn))
                clear hsn hfq1
                go_wp2_with fail
                go_quiet ((first | (go_at_call_of 20 (Value.int .i64 x.v); exact Calls.quiet_of_same (HFAR.out.1 _)) | (go_at_call_of 20 (Value.int .i64 x.t); exact Calls.quiet_of_same (HFAR.out.2 _))))
                go_wp2_with fail
                go_roundg (L.length - (k + 1))
                case measure => omega
                case rel => exact ⟨k + 1, _, by omega, rfl, by go_num, rfl, (by first | exact HR'.out | exact fun _ => HR'.out trivial | exact fun h => by cases h), by rw [HM'.out], by have hbd := HBD.out.trans (HBE.out.mono (by omega)); (repeat (first | (with_reducible assumption) | (with_reducible exact Below.refl _ _) | ((with_reducible refine Below.setCell ?_ ?_ _); rotate_left; · (first | omega | (simp; done) | (simp; omega) | (simp at *; omega))) | ((with_reducible refine Below.alloc ?_ ?_ _); rotate_left; · (first | omega | (simp; done) | (simp; omega) | (simp at *; omega))) | (with_reducible refine Below.drew ?_) | (with_reducible refine below_drewN ?_ _) | ((refine Below.trans ?_ (Below.mono (by with_reducible assumption) ?_)); rotate_left; · (first | omega | (simp; done) | (simp; omega) | (simp at *; omega)))))⟩
              | false =>
                have HFAR := Lib.hid (And.intro (fun W => far_no x.v h.v b.dead W hfx.1 hfh.1 HDQ.out.1 HN.out) True.intro)
                have hqn : b.quiet ≤ 0 := by have := of_decide_eq_false hq0; omega
                go_wp2_with fail
                go_quiet ((first | (go_at_call_of 20 (Value.int .i64 x.v); exact Calls.quiet_of_same (HFAR.out.1 _)) | (go_at_call_of 20 (Value.int .i64 x.t); exact Calls.quiet_of_same (HFAR.out.2 _))))
                go_wp2_with fail
                go_roundg (L.length - (k + 1))
                case measure => omega
                case rel => exact ⟨k + 1, _, by omega, rfl, by go_num, rfl, (by first | exact HR'.out | exact fun _ => HR'.out trivial | exact fun h => by cases h), by rw [HM'.out], by have hbd := HBD.out.trans (HBE.out.mono (by omega)); (repeat (first | (with_reducible assumption) | (with_reducible exact Below.refl _ _) | ((with_reducible refine Below.setCell ?_ ?_ _); rotate_left; · (first | omega | (simp; done) | (simp; omega) | (simp at *; omega))) | ((with_reducible refine Below.alloc ?_ ?_ _); rotate_left; · (first | omega | (simp; done) | (simp; omega) | (simp at *; omega))) | (with_reducible refine Below.drew ?_) | (with_reducible refine below_drewN ?_ _) | ((refine Below.trans ?_ (Below.mono (by with_reducible assumption) ?_)); rotate_left; · (first | omega | (simp; done) | (simp; omega) | (simp at *; omega)))))⟩
          · have n1 : ((m' : Int) != (m : Int)) = true := by rw [bne_iff_ne]; omega
            have n4 : ((m' : Int) == (m : Int) + 1) = true := by rw [beq_iff_eq]; omega
            have n1b : ((m' : Int) != (m : Int) + 1) = false := by rw [bne_eq_false_iff_eq]; omega
            have hmi : (m : Int) < (O.length : Int) := by have := hmO e; omega
            have hm0 : (0 : Int) ≤ (m : Int) := by omega
            obtain ⟨u0, u1⟩ := hcO m (hmO e)
            rw [HOM.out e] at u0 u1
            have hjB : (j : Int) ≤ 2001 := by have := HJ.out; omega
            have HCO := Lib.hid (hcO j hjO)
            clear e hmO hcO
            have hjm : (m' : Int) - 1 = (j : Int) := by have := HJ.out; omega
            have hj0 : (0 : Int) ≤ (j : Int) := by omega
            have hji : (j : Int) < (O.length : Int) := by omega
            go_upto_region 13 with fail
            go_cut [83] (fun s83 wx => s83 = .bool false ∧ Below wd.heap.size wd wx)
            case first =>
              go_quiet (fail)
              go_wp2_with fail
              go_meet
              exact ⟨rfl, by (repeat (first | (with_reducible assumption) | (with_reducible exact Below.refl _ _) | ((with_reducible refine Below.setCell ?_ ?_ _); rotate_left; · (first | omega | (simp; done) | (simp; omega) | (simp at *; omega))) | ((with_reducible refine Below.alloc ?_ ?_ _); rotate_left; · (first | omega | (simp; done) | (simp; omega) | (simp at *; omega))) | (with_reducible refine Below.drew ?_) | (with_reducible refine below_drewN ?_ _) | ((refine Below.trans ?_ (Below.mono (by with_reducible assumption) ?_)); rotate_left; · (first | omega | (simp; done) | (simp; omega) | (simp at *; omega)))))⟩
            obtain ⟨rfl, hbe⟩ := hcut
            obtain ⟨we, rfl⟩ : ∃ we : World, we = wc := ⟨_, rfl⟩
            have hwe := hbe.size
            have HBE := Lib.hid hbe
            have v0 := (hbe.cell (p := ⟨ob, oo + j * 2, none⟩) (by show ob < _; omega)).trans HCO.out.1
            have v1 := (hbe.cell (p := ⟨ob, oo + j * 2 + 1, none⟩) (by show ob < _; omega)).trans HCO.out.2
            rw [HOJ.out] at v0 v1
            dsimp only at v0 v1
            have h0' := (hbe.cell (p := ⟨bb, off + k * 2, none⟩) (by show bb < _; omega)).trans h0
            have h1' := (hbe.cell (p := ⟨bb, off + k * 2 + 1, none⟩) (by show bb < _; omega)).trans h1
            have e0' := (hbe.cell (p := ⟨w.heap.size, 0, none⟩) (by show w.heap.size < _; omega)).trans e0
            have e1' := (hbe.cell (p := ⟨w.heap.size, 1, none⟩) (by show w.heap.size < _; omega)).trans e1
            have hle' : w.heap.size < we.heap.size := by omega
            have hlb' : bb < we.heap.size := by omega
            clear hbe h0 h1 e0 e1 n1 n4 n2 n2' n3
            cases r' with
            | false =>
              have HFAR := Lib.hid (And.intro (fun W => far_no x.v h.v b.dead W hfx.1 hfh.1 HDQ.out.1 HN.out) True.intro)
              go_wp2_with fail
              go_quiet ((first | (go_at_call_of 20 (Value.int .i64 x.v); exact Calls.quiet_of_same (HFAR.out.1 _)) | (go_at_call_of 20 (Value.int .i64 x.t); exact Calls.quiet_of_same (HFAR.out.2 _))))
              go_wp2_with fail
              go_roundg (L.length - (k + 1))
              case measure => omega
              case rel => exact ⟨k + 1, _, by omega, rfl, by go_num, rfl, (by first | exact HR'.out | exact fun _ => HR'.out trivial | exact fun h => by cases h), by rw [HM'.out], by have hbd := HBD.out.trans (HBE.out.mono (by omega)); (repeat (first | (with_reducible assumption) | (with_reducible exact Below.refl _ _) | ((with_reducible refine Below.setCell ?_ ?_ _); rotate_left; · (first | omega | (simp; done) | (simp; omega) | (simp at *; omega))) | ((with_reducible refine Below.alloc ?_ ?_ _); rotate_left; · (first | omega | (simp; done) | (simp; omega) | (simp at *; omega))) | (with_reducible refine Below.drew ?_) | (with_reducible refine below_drewN ?_ _) | ((refine Below.trans ?_ (Below.mono (by with_reducible assumption) ?_)); rotate_left; · (first | omega | (simp; done) | (simp; omega) | (simp at *; omega)))))⟩
            | true =>
              cases hq0 : decide (0 < b.quiet) with
              | true =>
                have hqp : 0 < b.quiet := of_decide_eq_true hq0
                have hfq1 : I64 (b.quiet - 1) := by have h1 := HDQ.out.2; unfold I64 at h1 ⊢; omega
                have hwq1 : IntKind.i64.wrap (b.quiet - 1) = b.quiet - 1 := IntWalk.i64_in _ (by unfold I64 at hfq1; omega)
                have hsn := HSN.out (HR'.out (by first | rfl | trivial)) hqp
                have HFAR := Lib.hid (And.intro (fun W => far_no x.v h.v b.dead W hfx.1 hfh.1 HDQ.out.1 HN.out) (fun W => far_no x.t h.t (b.quiet - 1) W hfx.2 hfh.2 hfq1 hsn))
                clear hsn hfq1
                go_wp2_with fail
                go_quiet ((first | (go_at_call_of 20 (Value.int .i64 x.v); exact Calls.quiet_of_same (HFAR.out.1 _)) | (go_at_call_of 20 (Value.int .i64 x.t); exact Calls.quiet_of_same (HFAR.out.2 _))))
                go_wp2_with fail
                go_roundg (L.length - (k + 1))
                case measure => omega
                case rel => exact ⟨k + 1, _, by omega, rfl, by go_num, rfl, (by first | exact HR'.out | exact fun _ => HR'.out trivial | exact fun h => by cases h), by rw [HM'.out], by have hbd := HBD.out.trans (HBE.out.mono (by omega)); (repeat (first | (with_reducible assumption) | (with_reducible exact Below.refl _ _) | ((with_reducible refine Below.setCell ?_ ?_ _); rotate_left; · (first | omega | (simp; done) | (simp; omega) | (simp at *; omega))) | ((with_reducible refine Below.alloc ?_ ?_ _); rotate_left; · (first | omega | (simp; done) | (simp; omega) | (simp at *; omega))) | (with_reducible refine Below.drew ?_) | (with_reducible refine below_drewN ?_ _) | ((refine Below.trans ?_ (Below.mono (by with_reducible assumption) ?_)); rotate_left; · (first | omega | (simp; done) | (simp; omega) | (simp at *; omega)))))⟩
              | false =>
                have HFAR := Lib.hid (And.intro (fun W => far_no x.v h.v b.dead W hfx.1 hfh.1 HDQ.out.1 HN.out) True.intro)
                have hqn : b.quiet ≤ 0 := by have := of_decide_eq_false hq0; omega
                go_wp2_with fail
                go_quiet ((first | (go_at_call_of 20 (Value.int .i64 x.v); exact Calls.quiet_of_same (HFAR.out.1 _)) | (go_at_call_of 20 (Value.int .i64 x.t); exact Calls.quiet_of_same (HFAR.out.2 _))))
                go_wp2_with fail
                go_roundg (L.length - (k + 1))
                case measure => omega
                case rel => exact ⟨k + 1, _, by omega, rfl, by go_num, rfl, (by first | exact HR'.out | exact fun _ => HR'.out trivial | exact fun h => by cases h), by rw [HM'.out], by have hbd := HBD.out.trans (HBE.out.mono (by omega)); (repeat (first | (with_reducible assumption) | (with_reducible exact Below.refl _ _) | ((with_reducible refine Below.setCell ?_ ?_ _); rotate_left; · (first | omega | (simp; done) | (simp; omega) | (simp at *; omega))) | ((with_reducible refine Below.alloc ?_ ?_ _); rotate_left; · (first | omega | (simp; done) | (simp; omega) | (simp at *; omega))) | (with_reducible refine Below.drew ?_) | (with_reducible refine below_drewN ?_ _) | ((refine Below.trans ?_ (Below.mono (by with_reducible assumption) ?_)); rotate_left; · (first | omega | (simp; done) | (simp; omega) | (simp at *; omega)))))⟩
    · obtain rfl : k = L.length := by omega
      have hki : ¬ (L.length : Int) < (L.length : Int) := by omega
      rw [← HO.out]
      have HBW := Lib.hid hbw
      clear hbw
      go_wp2_with fail
      refine (known_any _).mono ?_
      rintro e w2 ⟨rfl, hb2⟩
      go_wp2
      go_ret
      exact ⟨rfl, HW1.out.trans ((HBW.out.trans (hb2.mono hws)).mono (by omega))⟩

theorem own : ownKnob Try.prog.godebug = none := by kernel_rfl

set_option maxRecDepth 100000 in
theorem lifted (os : Os) (started : os.Started) (H : Type) (enc : TypeId × Value → H) :
    ReturnsInHanded {} Try.checked os 5 .any (Rows.bandNearSpec.pre6 enc Try.prog Try.f5 Rows.bandNearRow.domain false) (Rows.bandNearSpec.post enc Try.prog Try.f5 false true false false) := by
  refine law_lifted (C := Try.checked) (tb := 4) own started (by kernel_rfl) Try.func5
    (ChangeSpec.witness6 (enc := enc) (C := Try.checked) false ⟨#[], #[.agg #[.int .i64 0, .int .i64 0], .slice none 0 0], []⟩ 8 (by kernel_rfl) (by kernel_rfl) (by kernel_rfl) (by kernel_rfl))
    rfl (by kernel_rfl) (by kernel_rfl) (by kernel_rfl) Try.underlying4 (fun ds h => ?_) ?_
  · rw [show Try.f5.params = #[23, 33] from Try.params5] at h
    match ds, h with
    | [_, _], _ => rfl
  · intro W base args ds before hval hA hlt hsz
    rw [show Try.f5.params = #[23, 33] from Try.params5] at hA hval hsz
    obtain ⟨v0, vs0, d0, ds0, p0, q0, hargs, rfl, rfl, h0, r0⟩ := trodAll_cons hA
    obtain ⟨v1, vs1, d1, ds1, p1, q1, rfl, rfl, rfl, h1, r1⟩ := trodAll_cons r0
    obtain ⟨rfl, rfl, rfl⟩ := trodAll_nil r1
    obtain rfl : args = #[v0, v1] := by cases args; simp_all
    obtain ⟨b, rfl, hd, hq⟩ := open_band (hval 0 _ v0 rfl rfl) h0
    obtain ⟨A, cap, L, rfl, hcap, hc16, hS, hF⟩ := open_points (hval 1 _ v1 rfl rfl) h1 hsz (j := 1) rfl rfl
    exact walk A cap b L W hS hcap (by omega) hF hd hq

theorem proved : Rows.BandNearSaid :=
  OpenClaim.holds_of_wide 5 Try.f5 rfl rfl rfl rfl rfl rfl rfl ⟨rfl, rfl, rfl, rfl, rfl⟩ rfl rfl rfl rfl rfl (by kernel_rfl) Try.func5 (by kernel_rfl)
    (of_decide_eq_true (by kernel_rfl)) (by unfold Func.isWrapper; rw [if_neg (of_decide_eq_false (by kernel_rfl))]; exact ⟨rfl, rfl⟩)
    (fun os started H enc _ => lifted os started H enc)
#print axioms proved
end BandNear
end Go.Proofs.Ytjidfcogcgaclaa
