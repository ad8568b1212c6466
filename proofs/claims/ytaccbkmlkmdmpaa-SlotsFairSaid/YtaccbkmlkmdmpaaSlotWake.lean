/-
  What is proved here: which slot is due by the reference, and when the next one is, there and here (chapter 17). Conditions: none beyond each theorem's own.
-/
import Derived.Test.YtaccbkmlkmdmpaaSlotDue
namespace Go.Proofs.Ytaccbkmlkmdmpaa
open Go.RowKit Go.Deep

theorem rdue_any (A : Option Addr) (cap : Nat) (L : List Slot) (now : Int) (w : World) (hA : SlotsAt w A L) (hlen : L.length ≤ 140737488351232) :
    Calls Try.prog 11 #[.slice A L.length cap, .int .i64 now] w fun e w' => e = .returned (.int .i64 (dueTo L now L.length)) ∧ Below w.heap.size w w' := by
  by_cases hz : 0 < L.length
  · obtain ⟨b, off, rfl, hb, hS⟩ := hA hz
    have HS := Lib.hid hS
    clear hS hA
    go_enter Try.func11, Try.ntmps11
    go_wp2
    go_loopg [6, 5] L.length (fun g i at_ wr => ∃ k : Nat, k ≤ L.length ∧ g = L.length - k ∧ i = .int .i64 k ∧ at_ = .int .i64 (dueTo L now k) ∧ Below w.heap.size w wr)
    case atStart => exact ⟨0, Nat.zero_le _, rfl, rfl, rfl, Below.refl _ _⟩
    case round =>
      obtain ⟨k, hk, rfl, rfl, rfl, hbw⟩ := hrel
      have hd := dueTo_bounds L now k
      obtain ⟨a, ha⟩ : ∃ a, a = dueTo L now k := ⟨_, rfl⟩
      rw [← ha] at hd ⊢
      by_cases hlt : k < L.length
      · obtain ⟨c0, c1, c2⟩ := HS.out k hlt
        have h1 := (hbw.cell (p := ⟨b, off + k * 3 + 1, none⟩) hb).trans c1
        clear c0 c1 c2
        obtain ⟨x, hx⟩ : ∃ x, x = L.getD k ⟨0, 0, 0⟩ := ⟨_, rfl⟩
        rw [← hx] at h1
        have hw1 := hbw.size
        have hki : (k : Int) < (L.length : Int) := by omega
        have hk0 : (0 : Int) ≤ (k : Int) := by omega
        by_cases g1 : x.n ≤ now
        · by_cases g2 : a < 0
          · have HX := Lib.hid hx
            have HA := Lib.hid ha
            clear hx ha
            go_wp2
            go_quiet (fail)
            go_wp2
            go_roundg (L.length - (k + 1))
            case measure => omega
            case rel => exact ⟨k + 1, by omega, rfl, by go_num, by rw [due_first (by rw [← HX.out]; exact g1) (by rw [← HA.out]; exact g2)], by (repeat (first | (with_reducible assumption) | (with_reducible exact Below.refl _ _) | ((with_reducible refine Below.setCell ?_ ?_ _); rotate_left; · (first | omega | (simp; done) | (simp; omega) | (simp at *; omega))) | ((with_reducible refine Below.alloc ?_ ?_ _); rotate_left; · (first | omega | (simp; done) | (simp; omega) | (simp at *; omega))) | (with_reducible refine Below.drew ?_) | (with_reducible refine below_drewN ?_ _) | ((refine Below.trans ?_ (Below.mono (by with_reducible assumption) ?_)); rotate_left; · (first | omega | (simp; done) | (simp; omega) | (simp at *; omega)))))⟩
          · obtain ⟨j, rfl⟩ := Int.eq_ofNat_of_zero_le (by omega : 0 ≤ a)
            have hj : j < L.length := by omega
            obtain ⟨d0, d1, d2⟩ := HS.out j hj
            have e1 := (hbw.cell (p := ⟨b, off + j * 3 + 1, none⟩) hb).trans d1
            clear d0 d1 d2
            obtain ⟨y, hy⟩ : ∃ y, y = L.getD j ⟨0, 0, 0⟩ := ⟨_, rfl⟩
            rw [← hy] at e1
            have hji : (j : Int) < (L.length : Int) := by omega
            have hj0 : decide ((j : Int) < 0) = false := by simp
            by_cases g3 : x.n < y.n
            · have HX := Lib.hid hx
              have HA := Lib.hid ha
              have HY := Lib.hid hy
              clear hx ha hy
              go_wp2
              go_quiet (fail)
              go_wp2
              go_roundg (L.length - (k + 1))
              case measure => omega
              case rel => exact ⟨k + 1, by omega, rfl, by go_num, by rw [due_less (by rw [← HX.out]; exact g1) HA.out.symm (by rw [← HX.out, ← HY.out]; exact g3)], by (repeat (first | (with_reducible assumption) | (with_reducible exact Below.refl _ _) | ((with_reducible refine Below.setCell ?_ ?_ _); rotate_left; · (first | omega | (simp; done) | (simp; omega) | (simp at *; omega))) | ((with_reducible refine Below.alloc ?_ ?_ _); rotate_left; · (first | omega | (simp; done) | (simp; omega) | (simp at *; omega))) | (with_reducible refine Below.drew ?_) | (with_reducible refine below_drewN ?_ _) | ((refine Below.trans ?_ (Below.mono (by with_reducible assumption) ?_)); rotate_left; · (first | omega | (simp; done) | (simp; omega) | (simp at *; omega)))))⟩
            · have HX := Lib.hid hx
              have HA := Lib.hid ha
              have HY := Lib.hid hy
              clear hx ha hy
              have g3' : decide (x.n < y.n) = false := decide_eq_false g3
              go_wp2
              go_quiet (fail)
              go_wp2
              go_roundg (L.length - (k + 1))
              case measure => omega
              case rel => exact ⟨k + 1, by omega, rfl, by go_num, by rw [due_more HA.out.symm (by rw [← HX.out, ← HY.out]; omega)], by (repeat (first | (with_reducible assumption) | (with_reducible exact Below.refl _ _) | ((with_reducible refine Below.setCell ?_ ?_ _); rotate_left; · (first | omega | (simp; done) | (simp; omega) | (simp at *; omega))) | ((with_reducible refine Below.alloc ?_ ?_ _); rotate_left; · (first | omega | (simp; done) | (simp; omega) | (simp at *; omega))) | (with_reducible refine Below.drew ?_) | (with_reducible refine below_drewN ?_ _) | ((refine Below.trans ?_ (Below.mono (by with_reducible assumption) ?_)); rotate_left; · (first | omega | (simp; done) | (simp; omega) | (simp at *; omega)))))⟩
        · have HX := Lib.hid hx
          have HA := Lib.hid ha
          clear hx ha
          have g1' : decide (x.n ≤ now) = false := decide_eq_false g1
          go_wp2
          go_quiet (fail)
          go_wp2
          go_roundg (L.length - (k + 1))
          case measure => omega
          case rel => exact ⟨k + 1, by omega, rfl, by go_num, by rw [due_no (by rw [← HX.out]; omega), ← HA.out], by (repeat (first | (with_reducible assumption) | (with_reducible exact Below.refl _ _) | ((with_reducible refine Below.setCell ?_ ?_ _); rotate_left; · (first | omega | (simp; done) | (simp; omega) | (simp at *; omega))) | ((with_reducible refine Below.alloc ?_ ?_ _); rotate_left; · (first | omega | (simp; done) | (simp; omega) | (simp at *; omega))) | (with_reducible refine Below.drew ?_) | (with_reducible refine below_drewN ?_ _) | ((refine Below.trans ?_ (Below.mono (by with_reducible assumption) ?_)); rotate_left; · (first | omega | (simp; done) | (simp; omega) | (simp at *; omega)))))⟩
      · obtain rfl : k = L.length := by omega
        have HA := Lib.hid ha
        clear ha
        go_wp2
        go_ret
        exact ⟨ret_int HA.out, hbw⟩
  · obtain rfl : L = [] := List.eq_nil_of_length_eq_zero (by omega)
    clear hA
    go_enter Try.func11, Try.ntmps11
    go_wp2
    go_loopg [6, 5] 0 (fun g i at_ wr => i = .int .i64 0 ∧ at_ = .int .i64 (-1) ∧ w = wr)
    case atStart => exact ⟨rfl, rfl, rfl⟩
    case round =>
      obtain ⟨rfl, rfl, rfl⟩ := hrel
      go_wp2
      go_ret
      exact ⟨rfl, Below.refl _ _⟩

theorem wake_any (A : Option Addr) (cap : Nat) (L : List Slot) (w : World) (hA : SlotsAt w A L) (hcap : L.length ≤ cap) (hlen : L.length ≤ 140737488351232) :
    Calls Try.prog 12 #[.slice A L.length cap] w fun e w' => e = .returned (.int .i64 (wakeTo L L.length)) ∧ Below w.heap.size w w' := by
  by_cases hz : 0 < L.length
  · obtain ⟨b, off, rfl, hb, hS⟩ := hA hz
    obtain ⟨c0, c1, c2⟩ := hS 0 hz
    simp only [Nat.zero_mul, Nat.add_zero] at c1
    obtain ⟨x, hx⟩ : ∃ x, x = L.getD 0 ⟨0, 0, 0⟩ := ⟨_, rfl⟩
    rw [← hx] at c1
    have HX := Lib.hid hx
    have HS := Lib.hid hS
    clear hS hA c0 c2 hx
    have hz0 : ((L.length : Int) == 0) = false := by rw [beq_eq_false_iff_ne]; omega
    have hzi : (0 : Int) < (L.length : Int) := by omega
    have hz1 : (1 : Int) ≤ (L.length : Int) := by omega
    by_cases hc1 : cap = 1
    · have hl1 : L.length = 1 := by omega
      subst hc1
      rw [hl1] at hz0 hzi hz1 ⊢
      have HL := Lib.hid hl1
      clear hz hcap hl1 hz0 hzi hz1
      go_enter Try.func12, Try.ntmps12
      go_wp2
      go_loopg [3, 16] 0 (fun g lv i wr => lv = .int .i64 x.n ∧ i = .int .i64 0 ∧ w = wr)
      case atStart => exact ⟨rfl, rfl, rfl⟩
      case round =>
        obtain ⟨rfl, rfl, rfl⟩ := hrel
        go_wp2
        go_ret
        exact ⟨ret_int (by rw [wake_first, HX.out]), Below.refl _ _⟩
    · have hcne : ¬ cap = 1 := hc1
      clear hc1
      go_enter Try.func12, Try.ntmps12
      go_wp2
      go_loopg [3, 16] (L.length - 1) (fun g lv i wr => ∃ k : Nat, k + 1 ≤ L.length ∧ g = L.length - 1 - k ∧ i = .int .i64 k ∧ lv = .int .i64 (wakeTo L (k + 1)) ∧ Below w.heap.size w wr)
      case atStart => exact ⟨0, hz, rfl, rfl, by rw [wake_first, HX.out], Below.refl _ _⟩
      case round =>
        obtain ⟨k, hk, rfl, rfl, rfl, hbw⟩ := hrel
        obtain ⟨a, ha⟩ : ∃ a, a = wakeTo L (k + 1) := ⟨_, rfl⟩
        rw [← ha]
        by_cases hlt : k + 1 < L.length
        · obtain ⟨c0, c1', c2⟩ := HS.out (k + 1) hlt
          have e1 : off + (k + 1) * 3 = off + 3 + k * 3 := by omega
          rw [e1] at c0 c1' c2
          have h0 := (hbw.cell (p := ⟨b, off + 3 + k * 3, none⟩) hb).trans c0
          have h1 := (hbw.cell (p := ⟨b, off + 3 + k * 3 + 1, none⟩) hb).trans c1'
          have h2 := (hbw.cell (p := ⟨b, off + 3 + k * 3 + 2, none⟩) hb).trans c2
          clear c0 c1' c2 e1 c1
          obtain ⟨y, hy⟩ : ∃ y, y = L.getD (k + 1) ⟨0, 0, 0⟩ := ⟨_, rfl⟩
          rw [← hy] at h0 h1 h2
          have hw1 := hbw.size
          have hki : (k : Int) < (L.length : Int) - 1 := by omega
          have HY := Lib.hid hy
          have HA := Lib.hid ha
          clear hy ha
          go_wp2
          all_goals
            go_roundg (L.length - 1 - (k + 1))
            case measure => omega
            case rel => exact ⟨k + 1, by omega, rfl, by go_num, congrArg _ (by rw [wake_step L (by omega), ← HA.out, ← HY.out]; omega), by (repeat (first | (with_reducible assumption) | (with_reducible exact Below.refl _ _) | ((with_reducible refine Below.setCell ?_ ?_ _); rotate_left; · (first | omega | (simp; done) | (simp; omega) | (simp at *; omega))) | ((with_reducible refine Below.alloc ?_ ?_ _); rotate_left; · (first | omega | (simp; done) | (simp; omega) | (simp at *; omega))) | (with_reducible refine Below.drew ?_) | (with_reducible refine below_drewN ?_ _) | ((refine Below.trans ?_ (Below.mono (by with_reducible assumption) ?_)); rotate_left; · (first | omega | (simp; done) | (simp; omega) | (simp at *; omega)))))⟩
        · obtain ⟨m, hm⟩ : ∃ m, m = L.length := ⟨_, rfl⟩
          obtain rfl : m = k + 1 := by omega
          have HA := Lib.hid ha
          have HM := Lib.hid hm
          have hki : ¬ (k : Int) < (L.length : Int) - 1 := by omega
          clear ha hm
          go_wp2
          go_ret
          exact ⟨ret_int (by rw [HA.out, HM.out]), hbw⟩
  · obtain rfl : L = [] := List.eq_nil_of_length_eq_zero (by omega)
    clear hA
    go_enter Try.func12, Try.ntmps12
    go_wp2
    go_ret
    exact ⟨rfl, Below.refl _ _⟩

theorem rwake_any (A : Option Addr) (cap : Nat) (L : List Slot) (w : World) (hA : SlotsAt w A L) (hlen : L.length ≤ 140737488351232) :
    Calls Try.prog 13 #[.slice A L.length cap] w fun e w' => e = .returned (.int .i64 (wakeTo L L.length)) ∧ Below w.heap.size w w' := by
  by_cases hz : 0 < L.length
  · obtain ⟨b, off, rfl, hb, hS⟩ := hA hz
    have HS := Lib.hid hS
    clear hS hA
    go_enter Try.func13, Try.ntmps13
    go_wp2
    go_loopg [3, 4] L.length (fun g lv i wr => ∃ k : Nat, k ≤ L.length ∧ g = L.length - k ∧ i = .int .i64 k ∧ lv = .int .i64 (wakeTo L k) ∧ Below w.heap.size w wr)
    case atStart => exact ⟨0, Nat.zero_le _, rfl, rfl, rfl, Below.refl _ _⟩
    case round =>
      obtain ⟨k, hk, rfl, rfl, rfl, hbw⟩ := hrel
      obtain ⟨a, ha⟩ : ∃ a, a = wakeTo L k := ⟨_, rfl⟩
      rw [← ha]
      by_cases hlt : k < L.length
      · obtain ⟨c0, c1, c2⟩ := HS.out k hlt
        have h1 := (hbw.cell (p := ⟨b, off + k * 3 + 1, none⟩) hb).trans c1
        clear c0 c1 c2
        obtain ⟨x, hx⟩ : ∃ x, x = L.getD k ⟨0, 0, 0⟩ := ⟨_, rfl⟩
        rw [← hx] at h1
        have hw1 := hbw.size
        have hki : (k : Int) < (L.length : Int) := by omega
        have hk0 : (0 : Int) ≤ (k : Int) := by omega
        by_cases g0 : k = 0
        · subst g0
          have HX := Lib.hid hx
          clear hx ha
          simp only [Nat.zero_mul, Nat.add_zero] at h1
          go_wp2
          go_roundg (L.length - (0 + 1))
          case measure => omega
          case rel => exact ⟨1, by omega, rfl, by go_num, by rw [wake_first, HX.out], by (repeat (first | (with_reducible assumption) | (with_reducible exact Below.refl _ _) | ((with_reducible refine Below.setCell ?_ ?_ _); rotate_left; · (first | omega | (simp; done) | (simp; omega) | (simp at *; omega))) | ((with_reducible refine Below.alloc ?_ ?_ _); rotate_left; · (first | omega | (simp; done) | (simp; omega) | (simp at *; omega))) | (with_reducible refine Below.drew ?_) | (with_reducible refine below_drewN ?_ _) | ((refine Below.trans ?_ (Below.mono (by with_reducible assumption) ?_)); rotate_left; · (first | omega | (simp; done) | (simp; omega) | (simp at *; omega)))))⟩
        · have hkz : ((k : Int) == 0) = false := by rw [beq_eq_false_iff_ne]; omega
          have HX := Lib.hid hx
          have HA := Lib.hid ha
          clear hx ha
          by_cases g3 : x.n < a
          · go_wp2
            go_roundg (L.length - (k + 1))
            case measure => omega
            case rel => exact ⟨k + 1, by omega, rfl, by go_num, congrArg _ (by rw [wake_step L (by omega), ← HA.out, ← HX.out]; omega), by (repeat (first | (with_reducible assumption) | (with_reducible exact Below.refl _ _) | ((with_reducible refine Below.setCell ?_ ?_ _); rotate_left; · (first | omega | (simp; done) | (simp; omega) | (simp at *; omega))) | ((with_reducible refine Below.alloc ?_ ?_ _); rotate_left; · (first | omega | (simp; done) | (simp; omega) | (simp at *; omega))) | (with_reducible refine Below.drew ?_) | (with_reducible refine below_drewN ?_ _) | ((refine Below.trans ?_ (Below.mono (by with_reducible assumption) ?_)); rotate_left; · (first | omega | (simp; done) | (simp; omega) | (simp at *; omega)))))⟩
          · go_wp2
            go_roundg (L.length - (k + 1))
            case measure => omega
            case rel => exact ⟨k + 1, by omega, rfl, by go_num, congrArg _ (by rw [wake_step L (by omega), ← HA.out, ← HX.out]; omega), by (repeat (first | (with_reducible assumption) | (with_reducible exact Below.refl _ _) | ((with_reducible refine Below.setCell ?_ ?_ _); rotate_left; · (first | omega | (simp; done) | (simp; omega) | (simp at *; omega))) | ((with_reducible refine Below.alloc ?_ ?_ _); rotate_left; · (first | omega | (simp; done) | (simp; omega) | (simp at *; omega))) | (with_reducible refine Below.drew ?_) | (with_reducible refine below_drewN ?_ _) | ((refine Below.trans ?_ (Below.mono (by with_reducible assumption) ?_)); rotate_left; · (first | omega | (simp; done) | (simp; omega) | (simp at *; omega)))))⟩
      · obtain rfl : k = L.length := by omega
        have HA := Lib.hid ha
        clear ha
        go_wp2
        go_ret
        exact ⟨ret_int HA.out, hbw⟩
  · obtain rfl : L = [] := List.eq_nil_of_length_eq_zero (by omega)
    clear hA
    go_enter Try.func13, Try.ntmps13
    go_wp2
    go_loopg [3, 4] 0 (fun g lv i wr => i = .int .i64 0 ∧ lv = .int .i64 (-1) ∧ w = wr)
    case atStart => exact ⟨rfl, rfl, rfl⟩
    case round =>
      obtain ⟨rfl, rfl, rfl⟩ := hrel
      go_wp2
      go_ret
      exact ⟨rfl, Below.refl _ _⟩
end Go.Proofs.Ytaccbkmlkmdmpaa
