/-
  What is proved here: lists of numbers ([]int) that are held against each other, copied, lent, looked at again, written over, and share no memory (package outstationkit). Conditions: none beyond each theorem's own.
-/
import Derived.Test.YtmmikolcipcldaaRows
import Derived.Test.YtmmikolcipcldaaIntRow
import Derived.BigQuiet
import Derived.Deep.QuietTactic
import Derived.Deep.LoopGhost
import Derived.WalkLawsBesides
import Derived.WalkSpells
import Derived.RegionTactic
import Derived.BigRegion
namespace Go.Proofs.Ytmmikolcipcldaa
namespace Ints
open Go.RowKit Go.Deep Go.Joins Go.WideShapes

theorem same_any (A B : Option Addr) (ca cb : Nat) (L M : List Int) (w : World) (hA : IntsAt .i64 w A L) (hB : IntsAt .i64 w B M) (hlen : L.length ≤ 140737488351232) :
    Calls Try.prog 43 #[.slice A L.length ca, .slice B M.length cb] w fun e w' => e = .returned (.bool (decide (L = M))) ∧ Below w.heap.size w w' := by
  by_cases hl : L.length = M.length
  · have HA := Lib.hid hA
    have HB := Lib.hid hB
    clear hA hB
    rw [← hl]
    have HL := Lib.hid hl
    clear hl
    go_enter Try.func43, Try.ntmps43
    go_wp2
    go_loopg [5] L.length (fun g i wr => ∃ k : Nat, k ≤ L.length ∧ g = L.length - k ∧ i = .int .i64 k ∧ (∀ j, j < k → L.getD j 0 = M.getD j 0) ∧ Below w.heap.size w wr)
    case atStart => exact ⟨0, Nat.zero_le _, rfl, rfl, fun j hj => absurd hj (by omega), Below.refl _ _⟩
    case round =>
      obtain ⟨k, hk, rfl, rfl, hsame, hbw⟩ := hrel
      have HSM := Lib.hid hsame
      clear hsame
      by_cases hlt : k < L.length
      · obtain ⟨b, off, rfl, hb, hS⟩ := HA.out (by omega)
        have hlM : L.length = M.length := HL.out
        obtain ⟨b', off', rfl, hb', hS'⟩ := HB.out (by omega)
        have h0 := (hbw.cell (p := ⟨b, off + k, none⟩) hb).trans (hS k hlt)
        have e0 := (hbw.cell (p := ⟨b', off' + k, none⟩) hb').trans (hS' k (by omega))
        clear hS hS' hlM
        obtain ⟨x, hx⟩ : ∃ x, x = L.getD k 0 := ⟨_, rfl⟩
        rw [← hx] at h0
        obtain ⟨y, hy⟩ : ∃ y, y = M.getD k 0 := ⟨_, rfl⟩
        rw [← hy] at e0
        have HX := Lib.hid hx
        have HY := Lib.hid hy
        clear hx hy
        have hki : (k : Int) < (L.length : Int) := by omega
        have hk0 : (0 : Int) ≤ (k : Int) := by omega
        by_cases hxy : x = y
        · subst hxy
          go_wp2
          go_quiet (fail)
          go_wp2
          go_roundg (L.length - (k + 1))
          case measure => omega
          case rel =>
            refine ⟨k + 1, by omega, rfl, by go_num, fun j hj => ?_, by (repeat (first | (with_reducible assumption) | (with_reducible exact Below.refl _ _) | ((with_reducible refine Below.setCell ?_ ?_ _); rotate_left; · (first | omega | (simp; done) | (simp; omega) | (simp at *; omega))) | ((with_reducible refine Below.alloc ?_ ?_ _); rotate_left; · (first | omega | (simp; done) | (simp; omega) | (simp at *; omega))) | (with_reducible refine Below.drew ?_) | (with_reducible refine below_drewN ?_ _) | ((refine Below.trans ?_ (Below.mono (by with_reducible assumption) ?_)); rotate_left; · (first | omega | (simp; done) | (simp; omega) | (simp at *; omega)))))⟩
            by_cases e : j = k
            · rw [e, ← HX.out, ← HY.out]
            · exact HSM.out j (by omega)
        · have hne : (x == y) = false := by rw [beq_eq_false_iff_ne]; exact hxy
          have hne' : (x != y) = true := by rw [bne_iff_ne]; exact hxy
          have HXY := Lib.hid hxy
          clear hxy
          go_wp2
          go_quiet (fail)
          go_wp2
          go_ret
          exact ⟨ret_bool (decide_eq_false (fun e => HXY.out (by rw [HX.out, HY.out, e]))).symm, by (repeat (first | (with_reducible assumption) | (with_reducible exact Below.refl _ _) | ((with_reducible refine Below.setCell ?_ ?_ _); rotate_left; · (first | omega | (simp; done) | (simp; omega) | (simp at *; omega))) | ((with_reducible refine Below.alloc ?_ ?_ _); rotate_left; · (first | omega | (simp; done) | (simp; omega) | (simp at *; omega))) | (with_reducible refine Below.drew ?_) | (with_reducible refine below_drewN ?_ _) | ((refine Below.trans ?_ (Below.mono (by with_reducible assumption) ?_)); rotate_left; · (first | omega | (simp; done) | (simp; omega) | (simp at *; omega)))))⟩
      · obtain rfl : k = L.length := by omega
        have hki : ¬ (L.length : Int) < (L.length : Int) := by omega
        go_wp2
        go_ret
        exact ⟨ret_bool (decide_eq_true (ext_getD_int HL.out HSM.out)).symm, hbw⟩
  · have hne : ((L.length : Int) == (M.length : Int)) = false := by rw [beq_eq_false_iff_ne]; omega
    have hne' : ((L.length : Int) != (M.length : Int)) = true := by rw [bne_iff_ne]; omega
    have HL := Lib.hid hl
    clear hl hA hB
    go_enter Try.func43, Try.ntmps43
    go_wp2
    go_ret
    exact ⟨ret_bool (decide_eq_false (fun e => HL.out (by rw [e]))).symm, Below.refl _ _⟩
theorem same_reads {w : World} {u v : Value} {L M : List Int} (hu : Reads .i64 w u L) (hv : Reads .i64 w v M) (hlen : L.length ≤ 140737488351232) :
    Calls Try.prog 43 #[u, v] w fun e w' => e = .returned (.bool (decide (L = M))) ∧ Below w.heap.size w w' := by
  obtain ⟨A, ca, rfl, hA⟩ := hu
  obtain ⟨B, cb, rfl, hB⟩ := hv
  exact same_any A B ca cb L M w hA hB hlen
theorem same_yes {w : World} {u v : Value} {L : List Int} (hu : Reads .i64 w u L) (hv : Reads .i64 w v L) (hlen : L.length ≤ 140737488351232) :
    Calls Try.prog 43 #[u, v] w fun e w' => e = .returned (.bool true) ∧ Below w.heap.size w w' := by
  refine (same_reads hu hv hlen).mono ?_
  rintro e w' ⟨rfl, hb⟩
  exact ⟨by rw [decide_eq_true rfl], hb⟩
theorem infoE : (Try.prog.info? 3).map (fun i => (i.zero, i.size, i.bytes)) = some (some (.int .i64 0), 1, 8) := by kernel_rfl

/-- a new list of the call's own. -/
def NewList (w : World) (L : List Int) (e : Ending) (w' : World) : Prop :=
  ∃ v, e = .returned v ∧ OwnG (IsIntK .i64) w' w.heap.size 3 1 v L.length (L.map (Value.int .i64)) ∧ Below w.heap.size w w'

def Spoilt (w : World) (g c : Nat) (w' : World) : Prop := IRow .i64 3 w' g c [] ∧ w.grownBy w' (some g)

set_option maxHeartbeats 1000000 in
theorem spoil_row (g n c : Nat) (w : World) (h : IRow .i64 3 w g c []) (hn : n ≤ c) (hc : c ≤ 9223372036854775807) :
    Calls Try.prog 45 #[.slice (some ⟨g, 0, none⟩) n c] w fun e w' => e = .returned (.tuple #[]) ∧ Spoilt w g c w' := by
  have H := Lib.hid h
  clear h
  go_enter Try.func45, Try.ntmps45
  go_wp2
  go_loopg [3] c (fun gk i wr => ∃ k : Nat, k ≤ c ∧ gk = c - k ∧ i = .int .i64 k ∧ IRow .i64 3 wr g c [] ∧ w.grownBy wr (some g))
  case atStart => exact ⟨0, Nat.zero_le _, rfl, rfl, H.out, only_refl _ _⟩
  case round =>
    obtain ⟨k, hk, rfl, rfl, hrow, hg⟩ := hrel
    by_cases hlt : k < c
    · obtain ⟨a, h0⟩ := hrow.any (j := k) (by omega)
      have f0 := hrow.frozen k
      have hki : (k : Int) < (c : Int) := by omega
      have hk0 : (0 : Int) ≤ (k : Int) := by omega
      have HR := Lib.hid hrow
      have HG := Lib.hid hg
      clear hrow hg
      go_wp2
      skip
      go_roundg (c - (k + 1))
      case measure => omega
      case rel => exact ⟨k + 1, by omega, rfl, by go_num, HR.out.set_ _ _, id (only_set HG.out _ _)⟩
    · obtain rfl : k = c := by omega
      have hki : ¬ (k : Int) < (k : Int) := by omega
      have HR := Lib.hid hrow
      have HG := Lib.hid hg
      clear hrow hg
      go_wp2
      go_end0
      exact ⟨rfl, HR.out, HG.out⟩

theorem spoil_nil (w : World) :
    Calls Try.prog 45 #[.slice none 0 0] w fun e w' => e = .returned (.tuple #[]) ∧ w = w' := by
  go_enter Try.func45, Try.ntmps45
  go_wp2
  go_loopg [3] 0 (fun gk i wr => i = .int .i64 0 ∧ w = wr)
  case atStart => exact ⟨rfl, rfl⟩
  case round =>
    obtain ⟨rfl, rfl⟩ := hrel
    go_wp2
    go_end0
    exact ⟨rfl, rfl⟩
theorem spoil_any {w : World} {v : Value} {n : Nat} (h : Row .i64 3 w v n) :
    Calls Try.prog 45 #[v] w fun e w' => e = .returned (.tuple #[]) ∧ Row .i64 3 w' v n ∧ w.grownBy w' v.ownBlock := by
  rcases h with ⟨rfl, rfl⟩ | ⟨g, cap, rfl, h1, h2, hr⟩
  · refine (spoil_nil w).mono ?_
    rintro e w' ⟨rfl, rfl⟩
    exact ⟨rfl, .inl ⟨rfl, rfl⟩, only_refl _ _⟩
  · refine (spoil_row g n cap w hr h1 h2).mono ?_
    rintro e w' ⟨rfl, hr', hg⟩
    exact ⟨rfl, .inr ⟨g, cap, rfl, h1, h2, hr'⟩, hg⟩
end Ints
end Go.Proofs.Ytmmikolcipcldaa
