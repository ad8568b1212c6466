/-
  What is proved here: what the functions of package slots, and of its reference, answer (chapter 17). Conditions: none beyond each theorem's own.
-/
import Derived.Test.YtaccbkmlkmdmpaaRows
import Derived.Test.YtaccbkmlkmdmpaaSlotLaws
import Derived.Test.YtaccbkmlkmdmpaaCore
import Derived.BigQuiet
import Derived.Deep.QuietTactic
import Derived.Deep.LoopGhost
import Derived.WalkLawsBesides
import Derived.WalkSpells
import Derived.BigGuardPart
namespace Go.Proofs.Ytaccbkmlkmdmpaa
open Go.RowKit Go.Deep

def SlotsAt (w : World) (A : Option Addr) (L : List Slot) : Prop :=
  0 < L.length → ∃ b off, A = some ⟨b, off, none⟩ ∧ b < w.heap.size ∧ ∀ i, i < L.length →
    w.cell? ⟨b, off + i * 3, none⟩ = some (.int .i64 (L.getD i ⟨0, 0, 0⟩).e) ∧ w.cell? ⟨b, off + i * 3 + 1, none⟩ = some (.int .i64 (L.getD i ⟨0, 0, 0⟩).n) ∧ w.cell? ⟨b, off + i * 3 + 2, none⟩ = some (.int .i64 (L.getD i ⟨0, 0, 0⟩).f)

theorem due_any (A : Option Addr) (cap : Nat) (L : List Slot) (now : Int) (w : World) (hA : SlotsAt w A L) (hlen : L.length ≤ 140737488351232) :
    Calls Try.prog 10 #[.slice A L.length cap, .int .i64 now] w fun e w' => e = .returned (.int .i64 (dueTo L now L.length)) ∧ Below w.heap.size w w' := by
  by_cases hz : 0 < L.length
  · obtain ⟨b, off, rfl, hb, hS⟩ := hA hz
    have HS := Lib.hid hS
    clear hS hA
    go_enter Try.func10, Try.ntmps10
    go_wp2
    go_loopg [10, 5] L.length (fun g i at_ wr => ∃ k : Nat, k ≤ L.length ∧ g = L.length - k ∧ i = .int .i64 k ∧ at_ = .int .i64 (dueTo L now k) ∧ Below w.heap.size w wr)
    case atStart => exact ⟨0, Nat.zero_le _, rfl, rfl, rfl, Below.refl _ _⟩
    case round =>
      obtain ⟨k, hk, rfl, rfl, rfl, hbw⟩ := hrel
      have hd := dueTo_bounds L now k
      obtain ⟨a, ha⟩ : ∃ a, a = dueTo L now k := ⟨_, rfl⟩
      rw [← ha] at hd ⊢
      by_cases hlt : k < L.length
      · obtain ⟨c0, c1, c2⟩ := HS.out k hlt
        have h0 := (hbw.cell (p := ⟨b, off + k * 3, none⟩) hb).trans c0
        have h1 := (hbw.cell (p := ⟨b, off + k * 3 + 1, none⟩) hb).trans c1
        have h2 := (hbw.cell (p := ⟨b, off + k * 3 + 2, none⟩) hb).trans c2
        clear c0 c1 c2
        obtain ⟨x, hx⟩ : ∃ x, x = L.getD k ⟨0, 0, 0⟩ := ⟨_, rfl⟩
        rw [← hx] at h0 h1 h2
        have hw1 := hbw.size
        by_cases g1 : x.n ≤ now
        · by_cases g2 : a < 0
          · have HX := Lib.hid hx
            have HA := Lib.hid ha
            clear hx ha
            go_wp2
            go_quiet (fail)
            go_wp2
            go_roundg (L.length - (k + 1))
            case measure => omega
            case rel => exact ⟨k + 1, by omega, rfl, by go_num, by rw [due_first (by rw [← HX.out]; exact g1) (by rw [← HA.out]; exact g2)], by (repeat (first | (with_reducible assumption) | (with_reducible exact Below.refl _ _) | ((with_reducible refine Below.setCell ?_ ?_ _); rotate_left; · (first | omega | (simp; done) | (simp; omega) | (simp at *; omega))) | ((with_reducible refine Below.alloc ?_ ?_ _); rotate_left; · (first | omega | (simp; done) | (simp; omega) | (simp at *; omega))) | (with_reducible refine Below.drew ?_) | (with_reducible refine below_drewN ?_ _) | ((refine Below.trans ?_ (Below.mono (by with_reducible assumption) ?_)); rotate_left; · (first | omega | (simp; done) | (simp; omega) | (simp at *; omega)))))⟩
          · obtain ⟨j, rfl⟩ := Int.eq_ofNat_of_zero_le (by omega : 0 ≤ a)
            have hj : j < L.length := by omega
            obtain ⟨d0, d1, d2⟩ := HS.out j hj
            have e1 := (hbw.cell (p := ⟨b, off + j * 3 + 1, none⟩) hb).trans d1
            clear d0 d1 d2
            obtain ⟨y, hy⟩ : ∃ y, y = L.getD j ⟨0, 0, 0⟩ := ⟨_, rfl⟩
            rw [← hy] at e1
            have hji : (j : Int) < (L.length : Int) := by omega
            have hj0 : decide ((j : Int) < 0) = false := by simp
            have hb2 : b < wr.heap.size := by omega
            by_cases g3 : x.n < y.n
            · have HX := Lib.hid hx
              have HA := Lib.hid ha
              have HY := Lib.hid hy
              clear hx ha hy
              go_wp2
              go_quiet (fail)
              go_wp2
              go_roundg (L.length - (k + 1))
              case measure => omega
              case rel => exact ⟨k + 1, by omega, rfl, by go_num, by rw [due_less (by rw [← HX.out]; exact g1) HA.out.symm (by rw [← HX.out, ← HY.out]; exact g3)], by (repeat (first | (with_reducible assumption) | (with_reducible exact Below.refl _ _) | ((with_reducible refine Below.setCell ?_ ?_ _); rotate_left; · (first | omega | (simp; done) | (simp; omega) | (simp at *; omega))) | ((with_reducible refine Below.alloc ?_ ?_ _); rotate_left; · (first | omega | (simp; done) | (simp; omega) | (simp at *; omega))) | (with_reducible refine Below.drew ?_) | (with_reducible refine below_drewN ?_ _) | ((refine Below.trans ?_ (Below.mono (by with_reducible assumption) ?_)); rotate_left; · (first | omega | (simp; done) | (simp; omega) | (simp at *; omega)))))⟩
            · have HX := Lib.hid hx
              have HA := Lib.hid ha
              have HY := Lib.hid hy
              clear hx ha hy
              go_wp2
              go_quiet (fail)
              go_wp2
              go_roundg (L.length - (k + 1))
              case measure => omega
              case rel => exact ⟨k + 1, by omega, rfl, by go_num, by rw [due_more HA.out.symm (by rw [← HX.out, ← HY.out]; omega)], by (repeat (first | (with_reducible assumption) | (with_reducible exact Below.refl _ _) | ((with_reducible refine Below.setCell ?_ ?_ _); rotate_left; · (first | omega | (simp; done) | (simp; omega) | (simp at *; omega))) | ((with_reducible refine Below.alloc ?_ ?_ _); rotate_left; · (first | omega | (simp; done) | (simp; omega) | (simp at *; omega))) | (with_reducible refine Below.drew ?_) | (with_reducible refine below_drewN ?_ _) | ((refine Below.trans ?_ (Below.mono (by with_reducible assumption) ?_)); rotate_left; · (first | omega | (simp; done) | (simp; omega) | (simp at *; omega)))))⟩
        · have HX := Lib.hid hx
          have HA := Lib.hid ha
          clear hx ha
          have g1' : decide (x.n ≤ now) = false := by simpa using g1
          go_wp2
          go_quiet (fail)
          go_wp2
          go_roundg (L.length - (k + 1))
          case measure => omega
          case rel => exact ⟨k + 1, by omega, rfl, by go_num, by rw [due_no (by rw [← HX.out]; omega), ← HA.out], by (repeat (first | (with_reducible assumption) | (with_reducible exact Below.refl _ _) | ((with_reducible refine Below.setCell ?_ ?_ _); rotate_left; · (first | omega | (simp; done) | (simp; omega) | (simp at *; omega))) | ((with_reducible refine Below.alloc ?_ ?_ _); rotate_left; · (first | omega | (simp; done) | (simp; omega) | (simp at *; omega))) | (with_reducible refine Below.drew ?_) | (with_reducible refine below_drewN ?_ _) | ((refine Below.trans ?_ (Below.mono (by with_reducible assumption) ?_)); rotate_left; · (first | omega | (simp; done) | (simp; omega) | (simp at *; omega)))))⟩
      · obtain rfl : k = L.length := by omega
        have HA := Lib.hid ha
        clear ha
        go_wp2
        go_ret
        exact ⟨ret_int HA.out, hbw⟩
  · obtain rfl : L = [] := List.eq_nil_of_length_eq_zero (by omega)
    clear hA
    go_enter Try.func10, Try.ntmps10
    go_wp2
    go_loopg [10, 5] 0 (fun g i at_ wr => i = .int .i64 0 ∧ at_ = .int .i64 (-1) ∧ w = wr)
    case atStart => exact ⟨rfl, rfl, rfl⟩
    case round =>
      obtain ⟨rfl, rfl, rfl⟩ := hrel
      go_wp2
      go_ret
      exact ⟨rfl, Below.refl _ _⟩
end Go.Proofs.Ytaccbkmlkmdmpaa
