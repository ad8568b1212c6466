/-
  What is proved here: the law BandFar returns true for every distance and all points. Conditions: none.
-/
import Derived.Test.YtjidfcogcgaclaaBandFacts
import Derived.Test.YtjidfcogcgaclaaBandOpen
import Derived.Deep.RegionHeld3
import Derived.IntWalk
namespace Go.Proofs.Ytjidfcogcgaclaa
namespace BandFar
open Go.ChangeShapes Go.WideShapes Go.ChangeAt Go.RowKit Go.Deep
attribute [local go_sem high] eq_point ne_point eqp_self

theorem far_yes (a b c : Int) (w : World) (ha : I64 a) (hb : I64 b) (hc : I64 c) (h : max c 0 < dist a b) :
    Calls Try.prog 20 #[.int .i64 a, .int .i64 b, .int .i64 c] w fun e w' => e = .returned (.bool true) ∧ w' = w :=
  (far_any a b c ha hb hc w).mono fun _ _ ⟨he, hw⟩ => ⟨by rw [he, decide_eq_true h], hw⟩
theorem out_fit (b : Band) (L : List Point) (hL : ∀ i, i < L.length → I64 (L.getD i p0).v ∧ I64 (L.getD i p0).t) : ∀ k, k ≤ L.length → ∀ i, i < (outTo b L k).length → I64 ((outTo b L k).getD i p0).v ∧ I64 ((outTo b L k).getD i p0).t
  | 0, _, i, hi => by simp [outTo] at hi
  | k + 1, hk, i, hi => by
    cases ht : told b (heldTo b L k) (L.getD k p0) with
    | false =>
      rw [out_no ht] at hi ⊢
      exact out_fit b L hL k (by omega) i hi
    | true =>
      rw [out_yes ht] at hi ⊢
      by_cases hlt : i < (outTo b L k).length
      · rw [List.getD_eq_getElem?_getD, List.getElem?_append_left hlt, ← List.getD_eq_getElem?_getD]
        exact out_fit b L hL k (by omega) i hlt
      · rw [List.length_append, List.length_singleton] at hi
        rw [List.getD_eq_getElem?_getD, List.getElem?_append_right (by omega), show i - (outTo b L k).length = 0 by omega]
        exact hL k (by omega)

theorem long_ (A : Option Addr) (cap : Nat) (dead : Int) (n : Nat) (w : World) (hbig : 16384 < n) :
    Calls Try.prog 6 #[.int .i64 dead, .slice A n cap] w fun e w' => e = .returned (.bool true) ∧ Below w.heap.size w w' := by
  have hb : (16384 : Int) < (n : Int) := by omega
  go_enter Try.func6, Try.ntmps6
  go_wp2_with fail
  refine (known_any _).mono ?_
  rintro e w1 ⟨rfl, hb1⟩
  have hw1 := hb1.size; try simp only [World.size_alloc] at hw1
  go_wp2
  go_ret
  exact ⟨rfl, by (repeat (first | (with_reducible assumption) | (with_reducible exact Below.refl _ _) | ((with_reducible refine Below.setCell ?_ ?_ _); rotate_left; · (first | omega | (simp; done) | (simp; omega) | (simp at *; omega))) | ((with_reducible refine Below.alloc ?_ ?_ _); rotate_left; · (first | omega | (simp; done) | (simp; omega) | (simp at *; omega))) | (with_reducible refine Below.drew ?_) | (with_reducible refine below_drewN ?_ _) | ((refine Below.trans ?_ (Below.mono (by with_reducible assumption) ?_)); rotate_left; · (first | omega | (simp; done) | (simp; omega) | (simp at *; omega)))))⟩

set_option maxRecDepth 100000 in
set_option maxHeartbeats 4000000 in
theorem walk (A : Option Addr) (cap : Nat) (dead : Int) (L : List Point) (w : World) (hA : PointsAt w A L) (hlen : L.length * 16 ≤ 140737488351232)
    (hL : ∀ i, i < L.length → I64 (L.getD i p0).v ∧ I64 (L.getD i p0).t) (hd : I64 dead) :
    Calls Try.prog 6 #[.int .i64 dead, .slice A L.length cap] w fun e w' => e = .returned (.bool true) ∧ Below w.heap.size w w' := by
  by_cases hbig : 16384 < L.length
  · exact long_ A cap dead L.length w hbig
  have hbi : ¬ (16384 : Int) < (L.length : Int) := by omega
  have hq : I64 0 := ⟨by decide, by decide⟩
  have HF := Lib.hid hL
  obtain ⟨O, hO⟩ : ∃ O, O = outTo ⟨dead, 0⟩ L L.length := ⟨_, rfl⟩
  have hfar := far_out ⟨dead, 0⟩ rfl L L.length
  have hag := out_again ⟨dead, 0⟩ rfl L L.length
  have hfit := out_fit ⟨dead, 0⟩ L hL L.length (Nat.le_refl _)
  have hol := out_len ⟨dead, 0⟩ L L.length
  have hz : (L.length = 0 ∧ O.length = 0) ∨ (0 < L.length ∧ 0 < O.length) := by
    rcases Nat.eq_zero_or_pos L.length with h | h
    · left; rw [hO]; exact ⟨h, by omega⟩
    · right; rw [hO]; exact ⟨h, (held_last ⟨dead, 0⟩ L L.length h).2.1⟩
  rw [← hO] at hfar hag hfit hol
  have HFAR := Lib.hid hfar
  have HAG := Lib.hid hag
  have HFIT := Lib.hid hfit
  have HZ := Lib.hid hz
  have HO := Lib.hid hO
  have HDQ := Lib.hid (And.intro hd hq)
  have HA := Lib.hid hA
  clear hA hL hd hq hO hfar hag hfit hz
  go_enter Try.func6, Try.ntmps6
  go_wp2_with fail
  refine (run_at A L.length cap ⟨dead, 0⟩ L O _ rfl (HA.out.below ((Below.refl _ _).alloc (Nat.le_refl _) _) (Nat.le_refl _)) hlen HF.out HDQ.out.1 HDQ.out.2 HO.out.symm).mono ?_
  rintro e w1 ⟨Ao, co, rfl, hOat, hb1⟩
  have B1 := (Blk.new w 23 #[.int .i64 dead, .int .i64 0]).below hb1 (by first | omega | (simp; done) | (simp; omega) | (simp at *; omega))
  have hbw1 : Below w.heap.size w w1 := by (repeat (first | (with_reducible assumption) | (with_reducible exact Below.refl _ _) | ((with_reducible refine Below.setCell ?_ ?_ _); rotate_left; · (first | omega | (simp; done) | (simp; omega) | (simp at *; omega))) | ((with_reducible refine Below.alloc ?_ ?_ _); rotate_left; · (first | omega | (simp; done) | (simp; omega) | (simp at *; omega))) | (with_reducible refine Below.drew ?_) | (with_reducible refine below_drewN ?_ _) | ((refine Below.trans ?_ (Below.mono (by with_reducible assumption) ?_)); rotate_left; · (first | omega | (simp; done) | (simp; omega) | (simp at *; omega)))))
  have hl1 := B1.lt
  have HB1 := Lib.hid B1
  have HOAT := Lib.hid hOat
  have HW1 := Lib.hid hbw1
  clear hb1 B1 hOat hbw1
  go_wp2_with fail
  go_loopg [7] (O.length - 1) (fun g i wr => ∃ k : Nat, (k ≤ O.length ∨ k = 1) ∧ 1 ≤ k ∧ g = O.length - k ∧ i = .int .i64 k ∧ Below w1.heap.size w1 wr)
  case atStart => exact ⟨1, .inr rfl, by omega, rfl, rfl, Below.refl _ _⟩
  case round =>
    obtain ⟨k, hk, hk1, rfl, rfl, hbw⟩ := hrel
    have hws := hbw.size
    by_cases hlt : k < O.length
    · obtain ⟨j, hj⟩ : ∃ j, k = j + 1 := ⟨k - 1, by omega⟩
      obtain ⟨ob, oo, rfl, hob, hS⟩ := HOAT.out (by omega)
      obtain ⟨x, hx⟩ : ∃ x, x = O.getD k p0 := ⟨_, rfl⟩
      obtain ⟨y, hy⟩ : ∃ y, y = O.getD j p0 := ⟨_, rfl⟩
      have c0 := (hS k hlt).1
      have d0 := (hS j (by omega)).1
      have hff := HFAR.out j (by omega)
      have hfx := HFIT.out k hlt
      have hfy := HFIT.out j (by omega)
      rw [← hj] at hff
      rw [← hx] at c0 hff hfx
      rw [← hy] at d0 hff hfy
      have h0 := (hbw.cell (p := ⟨ob, oo + k * 2, none⟩) hob).trans c0
      have h1 := (hbw.cell (p := ⟨ob, oo + j * 2, none⟩) hob).trans d0
      have hki : (k : Int) < (O.length : Int) := by omega
      have hk0 : (0 : Int) ≤ (k : Int) := by omega
      have hj0 : (0 : Int) ≤ (j : Int) := by omega
      have hjl : (j : Int) < (O.length : Int) := by omega
      have hkj : (k : Int) - 1 = (j : Int) := by omega
      have hwj : IntKind.i64.wrap ((k : Int) - 1) = (j : Int) := by rw [hkj]; exact IntWalk.i64_in _ (by omega)
      have HC := Lib.hid (fun W => far_yes x.v y.v dead W hfx.1 hfy.1 HDQ.out.1 hff)
      have HBW := Lib.hid hbw
      clear hx hy c0 d0 hff hfx hfy hS hj hbw
      go_wp2_with fail
      go_quiet ((go_at_call 20; exact Calls.quiet_of_same (HC.out _)))
      go_wp2_with fail
      go_roundg (O.length - (k + 1))
      case measure => omega
      case rel => exact ⟨k + 1, .inl (by omega), by omega, rfl, by go_num, by have hbd := HBW.out; (repeat (first | (with_reducible assumption) | (with_reducible exact Below.refl _ _) | ((with_reducible refine Below.setCell ?_ ?_ _); rotate_left; · (first | omega | (simp; done) | (simp; omega) | (simp at *; omega))) | ((with_reducible refine Below.alloc ?_ ?_ _); rotate_left; · (first | omega | (simp; done) | (simp; omega) | (simp at *; omega))) | (with_reducible refine Below.drew ?_) | (with_reducible refine below_drewN ?_ _) | ((refine Below.trans ?_ (Below.mono (by with_reducible assumption) ?_)); rotate_left; · (first | omega | (simp; done) | (simp; omega) | (simp at *; omega)))))⟩
    · have hki : ¬ (k : Int) < (O.length : Int) := by omega
      obtain ⟨e0, e1, _, _⟩ := (HB1.out.below hbw hl1).two
      have hPA := HOAT.out.below hbw (Nat.le_refl _)
      have HPA := Lib.hid hPA
      have HBW := Lib.hid hbw
      have hlr : w.heap.size < wr.heap.size := by omega
      clear hk hbw hPA hlt
      go_wp2_with fail
      refine (run_at Ao O.length co ⟨dead, 0⟩ O O _ rfl HPA.out (by omega) HFIT.out HDQ.out.1 HDQ.out.2 HAG.out).mono ?_
      rintro e w2 ⟨A2, c2, rfl, hA2, hb2⟩
      have HA2 := Lib.hid hA2
      have HPA2 := Lib.hid (HPA.out.below hb2 (Nat.le_refl _))
      have HW2 := Lib.hid (HBW.out.trans (hb2.mono hws))
      have hw2 := hb2.size; try simp only [World.size_alloc] at hw2
      clear hA2 hb2 e0 e1
      go_wp2_with fail
      refine (same_at A2 Ao O.length O.length c2 co O O _ rfl rfl HA2.out HPA2.out (by omega) rfl).mono ?_
      rintro e w3 ⟨rfl, hb3⟩
      have hw3 := hb3.size; try simp only [World.size_alloc] at hw3
      rcases HZ.out with ⟨z1, z2⟩ | ⟨z1, z2⟩
      · have y1 : ((L.length : Int) == 0) = true := by rw [beq_iff_eq]; omega
        have y2 : ((O.length : Int) == 0) = true := by rw [beq_iff_eq]; omega
        have HB3 := Lib.hid hb3
        clear z1 z2 hb3
        go_wp2_with fail
        refine (known_any _).mono ?_
        rintro e w4 ⟨rfl, hb4⟩
        go_wp2
        go_ret
        exact ⟨rfl, HW1.out.trans (((HW2.out.trans (HB3.out.mono (by omega))).trans (hb4.mono (by omega))).mono (by omega))⟩
      · have y1 : ((L.length : Int) == 0) = false := by rw [beq_eq_false_iff_ne]; omega
        have y2 : ((O.length : Int) == 0) = false := by rw [beq_eq_false_iff_ne]; omega
        have HB3 := Lib.hid hb3
        clear z1 z2 hb3
        go_wp2_with fail
        refine (known_any _).mono ?_
        rintro e w4 ⟨rfl, hb4⟩
        go_wp2
        go_ret
        exact ⟨rfl, HW1.out.trans (((HW2.out.trans (HB3.out.mono (by omega))).trans (hb4.mono (by omega))).mono (by omega))⟩

theorem own : ownKnob Try.prog.godebug = none := by kernel_rfl

set_option maxRecDepth 100000 in
theorem lifted (os : Os) (started : os.Started) (H : Type) (enc : TypeId × Value → H) :
    ReturnsInHanded {} Try.checked os 6 .any (Rows.bandFarSpec.pre6 enc Try.prog Try.f6 Rows.bandFarRow.domain false) (Rows.bandFarSpec.post enc Try.prog Try.f6 false true false false) := by
  refine law_lifted (C := Try.checked) (tb := 4) own started (by kernel_rfl) Try.func6
    (ChangeSpec.witness6 (enc := enc) (C := Try.checked) false ⟨#[], #[.int .i64 0, .slice none 0 0], []⟩ 8 (by kernel_rfl) (by kernel_rfl) (by kernel_rfl) (by kernel_rfl))
    rfl (by kernel_rfl) (by kernel_rfl) (by kernel_rfl) Try.underlying4 (fun ds h => ?_) ?_
  · rw [show Try.f6.params = #[3, 33] from Try.params6] at h
    match ds, h with
    | [_, _], _ => rfl
  · intro W base args ds before hval hA hlt hsz
    rw [show Try.f6.params = #[3, 33] from Try.params6] at hA hval hsz
    obtain ⟨v0, vs0, d0, ds0, p0, q0, hargs, rfl, rfl, h0, r0⟩ := trodAll_cons hA
    obtain ⟨v1, vs1, d1, ds1, p1, q1, rfl, rfl, rfl, h1, r1⟩ := trodAll_cons r0
    obtain ⟨rfl, rfl, rfl⟩ := trodAll_nil r1
    obtain rfl : args = #[v0, v1] := by cases args; simp_all
    obtain ⟨dead, rfl, _, _, hd⟩ := open_int Try.underlying3 (hval 0 3 v0 rfl rfl) h0
    obtain ⟨A, cap, L, rfl, hcap, hc16, hS, hF⟩ := open_points (hval 1 _ v1 rfl rfl) h1 hsz (j := 1) rfl rfl
    exact walk A cap dead L W hS (by omega) hF (I64.of hd)

theorem proved : Rows.BandFarSaid :=
  OpenClaim.holds_of_wide 6 Try.f6 rfl rfl rfl rfl rfl rfl rfl ⟨rfl, rfl, rfl, rfl, rfl⟩ rfl rfl rfl rfl rfl (by kernel_rfl) Try.func6 (by kernel_rfl)
    (of_decide_eq_true (by kernel_rfl)) (by unfold Func.isWrapper; rw [if_neg (of_decide_eq_false (by kernel_rfl))]; exact ⟨rfl, rfl⟩)
    (fun os started H enc _ => lifted os started H enc)
#print axioms proved
end BandFar
end Go.Proofs.Ytjidfcogcgaclaa
