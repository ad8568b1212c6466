/-
  What is proved here: two lists of points that lie in blocks of their own share no memory, as ApartPoints answers. Conditions: none beyond each theorem's own.
-/
import Derived.Test.YtjidfcogcgaclaaPointKit2
namespace Go.Proofs.Ytjidfcogcgaclaa
open Go.RowKit Go.Deep Go.Joins Go.WideShapes

def Has (w : World) (v : Value) (L : List Point) : Prop := ∃ A cap, v = .slice A L.length cap ∧ PointsAt w A L
def Lst (w : World) (v : Value) (n : Nat) : Prop :=
  (v = .slice none 0 0 ∧ n = 0) ∨ ∃ g cap, v = .slice (some ⟨g, 0, none⟩) n cap ∧ n ≤ cap ∧ cap ≤ 9223372036854775807 ∧ PRow w g cap []
theorem grown_below {w w' : World} (h : Below w.heap.size w w') (row : Option Nat) : w.grownBy w' row := ⟨h.os, h.tape, h.output, h.size, fun k hk _ => h.block k hk⟩
theorem below_grown {w w' : World} {base : Nat} {row : Option Nat} (h : w.grownBy w' row) (hr : ∀ b, row = some b → base ≤ b) (hb : base ≤ w.heap.size) : Below base w w' :=
  ⟨h.os, h.tape, h.output, h.size, fun k hk => h.block k (by omega) (fun e => by have := hr k e.symm; omega)⟩

theorem Has.grown {w w' : World} {v : Value} {L : List Point} {row : Option Nat} (h : Has w v L) (hg : w.grownBy w' row) (hne : ∀ b, v.ownBlock = some b → some b ≠ row) : Has w' v L := by
  obtain ⟨A, cap, rfl, hA⟩ := h
  refine ⟨A, cap, rfl, fun hp => ?_⟩
  obtain ⟨b, off, rfl, hlt, hc⟩ := hA hp
  have hb := hg.block b hlt (hne b rfl)
  refine ⟨b, off, rfl, Nat.lt_of_lt_of_le hlt hg.size, fun i hi => ?_⟩
  obtain ⟨c0, c1⟩ := hc i hi
  exact ⟨(World.cell?_of_block (a := ⟨b, off + i * 2, none⟩) hb).trans c0, (World.cell?_of_block (a := ⟨b, off + i * 2 + 1, none⟩) hb).trans c1⟩
theorem Lst.grown {w w' : World} {v : Value} {n : Nat} {row : Option Nat} (h : Lst w v n) (hg : w.grownBy w' row) (hne : ∀ b, v.ownBlock = some b → some b ≠ row) : Lst w' v n := by
  rcases h with h | ⟨g, cap, rfl, h1, h2, hr⟩
  · exact .inl h
  · exact .inr ⟨g, cap, rfl, h1, h2, hr.of_block (hg.block g hr.lt (hne g rfl))⟩
theorem Lst.lt {w : World} {v : Value} {n : Nat} (h : Lst w v n) {b : Nat} (hb : v.ownBlock = some b) : b < w.heap.size := by
  rcases h with ⟨rfl, _⟩ | ⟨g, cap, rfl, _, _, hr⟩
  · cases hb
  · cases hb; exact hr.lt
theorem Lst.below {w w' : World} {v : Value} {n : Nat} (h : Lst w v n) (hb : Below w.heap.size w w') : Lst w' v n := h.grown (grown_below hb none) (fun _ _ e => by cases e)
theorem Has.below {w w' : World} {v : Value} {L : List Point} (h : Has w v L) (hb : Below w.heap.size w w') : Has w' v L := h.grown (grown_below hb none) (fun _ _ e => by cases e)
theorem Lst.has {w : World} {v : Value} {n : Nat} (h : Lst w v n) : ∃ L : List Point, L.length = n ∧ Has w v L := by
  rcases h with ⟨rfl, rfl⟩ | ⟨g, cap, rfl, h1, _, hr⟩
  · exact ⟨[], rfl, none, 0, rfl, fun h => absurd h (by simp)⟩
  · have hex : ∀ i, i < n → ∃ p : Point, w.cell? ⟨g, i * 2, none⟩ = some (.int .i64 p.v) ∧ w.cell? ⟨g, i * 2 + 1, none⟩ = some (.int .i64 p.t) := by
      intro i hi
      obtain ⟨a, ha⟩ := hr.any (j := i * 2) (by omega)
      obtain ⟨b, hb⟩ := hr.any (j := i * 2 + 1) (by omega)
      exact ⟨⟨a, b⟩, ha, hb⟩
    haveI : Inhabited Point := ⟨p0⟩
    obtain ⟨S, hS⟩ := choose_lt hex
    refine ⟨(List.range n).map S, by simp, some ⟨g, 0, none⟩, cap, by simp, fun _ => ⟨g, 0, rfl, hr.lt, fun i hi => ?_⟩⟩
    simp only [List.length_map, List.length_range] at hi
    have e : ((List.range n).map S).getD i p0 = S i := by simp [hi]
    rw [e]
    simpa using hS i hi

theorem copy_lst {w : World} {v : Value} {L : List Point} (h : Has w v L) (hlen : L.length * 16 ≤ 140737488351232) :
    Calls Try.prog 22 #[v] w fun e w' => ∃ u, e = .returned u ∧ Has w' u L ∧ (∀ b, u.ownBlock = some b → w.heap.size ≤ b) ∧ Below w.heap.size w w' := by
  obtain ⟨A, cap, rfl, hA⟩ := h
  refine (copy_points A cap L w hA hlen).mono ?_
  rintro e w' ⟨u, rfl, ho, hb⟩
  rcases row_of_own ho with ⟨rfl, rfl⟩ | ⟨g, c, rfl, hg, _, hr⟩
  · exact ⟨_, rfl, ⟨none, 0, rfl, fun h => absurd h (by simp)⟩, fun b e => (by cases e), hb⟩
  · exact ⟨_, rfl, ⟨_, _, rfl, hr.at_⟩, fun b e => (by cases e; exact hg), hb⟩
theorem spoil_lst {w : World} {v : Value} {n : Nat} (h : Lst w v n) :
    Calls Try.prog 25 #[v] w fun e w' => e = .returned (.tuple #[]) ∧ Lst w' v n ∧ w.grownBy w' v.ownBlock := by
  rcases h with ⟨rfl, rfl⟩ | ⟨g, cap, rfl, h1, h2, hr⟩
  · refine (spoil_nil w).mono ?_
    rintro e w' ⟨rfl, rfl⟩
    exact ⟨rfl, .inl ⟨rfl, rfl⟩, only_refl _ _⟩
  · refine (spoil_row g n cap w hr h1 h2).mono ?_
    rintro e w' ⟨rfl, hr', hg⟩
    exact ⟨rfl, .inr ⟨g, cap, rfl, h1, h2, hr'⟩, hg⟩
theorem same_lst {w : World} {u v : Value} {L : List Point} (hu : Has w u L) (hv : Has w v L) (hlen : L.length * 16 ≤ 140737488351232) :
    Calls Try.prog 15 #[u, v] w fun e w' => e = .returned (.bool true) ∧ Below w.heap.size w w' := by
  obtain ⟨A, ca, rfl, hA⟩ := hu
  obtain ⟨B, cb, rfl, hB⟩ := hv
  refine (same_points A B ca cb L L w hA hB (by omega)).mono ?_
  rintro e w' ⟨rfl, hb⟩
  exact ⟨by rw [decide_eq_true rfl], hb⟩

def Two (base B : Nat) (v0 v1 : Value) (n0 n1 : Nat) (w wr : World) : Prop :=
  Lst wr v0 n0 ∧ Lst wr v1 n1 ∧ wr.cell? ⟨B, 0, none⟩ = some v0 ∧ wr.cell? ⟨B, 1, none⟩ = some v1 ∧ B < wr.heap.size ∧ base ≤ wr.heap.size ∧ Below base w wr
theorem Two.below {base B : Nat} {v0 v1 : Value} {n0 n1 : Nat} {w wr w' : World} (h : Two base B v0 v1 n0 n1 w wr) (hb : Below wr.heap.size wr w') : Two base B v0 v1 n0 n1 w w' := by
  obtain ⟨h0, h1, c0, c1, hB, hba, hw⟩ := h
  have := hb.size
  exact ⟨h0.below hb, h1.below hb, (hb.cell (p := ⟨B, 0, none⟩) hB).trans c0, (hb.cell (p := ⟨B, 1, none⟩) hB).trans c1, by omega, by omega, hw.trans (hb.mono hba)⟩
theorem Two.spoil {base B : Nat} {v0 v1 : Value} {n0 n1 : Nat} {w wr w' : World} {row : Option Nat} (h : Two base B v0 v1 n0 n1 w wr) (hg : wr.grownBy w' row) (hr : ∀ b, row = some b → base ≤ b ∧ b ≠ B) (h0 : Lst w' v0 n0) (h1 : Lst w' v1 n1) : Two base B v0 v1 n0 n1 w w' := by
  obtain ⟨_, _, c0, c1, hB, hba, hw⟩ := h
  have := hg.size
  have hk := hg.block B hB (fun e => (hr B e.symm).2 rfl)
  exact ⟨h0, h1, (World.cell?_of_block (a := ⟨B, 0, none⟩) hk).trans c0, (World.cell?_of_block (a := ⟨B, 1, none⟩) hk).trans c1, by omega, by omega, hw.trans (below_grown hg (fun b e => (hr b e).1) hba)⟩

set_option maxRecDepth 100000 in
set_option maxHeartbeats 2000000 in
theorem apart_two (base B : Nat) (v0 v1 : Value) (n0 n1 : Nat) (w : World) (hT : Two base B v0 v1 n0 n1 w w) (hd : ∀ b, v0.ownBlock = some b → v1.ownBlock ≠ some b)
    (hb0 : ∀ b, v0.ownBlock = some b → base ≤ b ∧ b ≠ B) (hb1 : ∀ b, v1.ownBlock = some b → base ≤ b ∧ b ≠ B) (l0 : n0 * 16 ≤ 140737488351232) (l1 : n1 * 16 ≤ 140737488351232) :
    Calls Try.prog 18 #[.slice (some ⟨B, 0, none⟩) 2 2] w fun e w' => e = .returned (.bool true) ∧ Below base w w' := by
  have HT := Lib.hid hT
  have HD := Lib.hid hd
  have HB0 := Lib.hid hb0
  have HB1 := Lib.hid hb1
  clear hT hd hb0 hb1
  go_enter Try.func18, Try.ntmps18
  go_wp2
  go_loopg [3] 2 (fun g i wr => ∃ k : Nat, k ≤ 2 ∧ g = 2 - k ∧ i = .int .i64 k ∧ Two base B v0 v1 n0 n1 w wr)
  case atStart => exact ⟨0, by omega, rfl, rfl, HT.out⟩
  case round =>
    clear HT
    obtain ⟨i, hi, rfl, rfl, hJ⟩ := hrel
    have HJ := Lib.hid hJ
    clear hJ
    by_cases hlt : i < 2
    · have hii : (i : Int) < 2 := by omega
      go_wp2
      go_loopg [4] 2 (fun g j wr => ∃ k : Nat, k ≤ 2 ∧ g = 2 - k ∧ j = .int .i64 k ∧ Two base B v0 v1 n0 n1 w wr)
      case atStart => exact ⟨0, by omega, rfl, rfl, HJ.out⟩
      case round =>
        clear HJ
        obtain ⟨k, hk, rfl, rfl, hJ⟩ := hrel
        have HJ := Lib.hid hJ
        clear hJ
        by_cases hkl : k < 2
        · have hkk : (k : Int) < 2 := by omega
          by_cases he : i = k
          · subst he
            go_wp2
            go_roundg (2 - (i + 1))
            case measure => omega
            case rel => exact ⟨i + 1, by omega, rfl, by go_num, HJ.out⟩
          · obtain ⟨rfl, rfl⟩ | ⟨rfl, rfl⟩ : (i = 0 ∧ k = 1) ∨ (i = 1 ∧ k = 0) := by omega
            · obtain ⟨c0, c1, hB⟩ : wr.cell? ⟨B, 0, none⟩ = some v0 ∧ wr.cell? ⟨B, 1, none⟩ = some v1 ∧ B < wr.heap.size := ⟨HJ.out.2.2.1, HJ.out.2.2.2.1, HJ.out.2.2.2.2.1⟩
              obtain ⟨L, hL, hH⟩ : ∃ L : List Point, L.length = n1 ∧ Has wr v1 L := by
                have h := HJ.out
                exact Lst.has (by first | exact h.1 | exact h.2.1)
              have HH := Lib.hid hH
              have HL := Lib.hid hL
              clear hH hL
              go_wp2_with fail
              refine (copy_lst HH.out (by rw [HL.out]; omega)).mono ?_
              rintro e w1 ⟨u, rfl, hu, hub, hb1⟩
              have HJ1 := Lib.hid (HJ.out.below hb1)
              have HH1 := Lib.hid (HH.out.below hb1)
              have HU := Lib.hid hu
              have HUB := Lib.hid hub
              have hvlt : ∀ b, v0.ownBlock = some b → b < wr.heap.size := fun b e => Lst.lt (by first | exact HJ.out.1 | exact HJ.out.2.1) e
              have HVL := Lib.hid hvlt
              clear hu hub hb1 c0 c1 hB hvlt
              obtain ⟨c0, c1, hB⟩ : w1.cell? ⟨B, 0, none⟩ = some v0 ∧ w1.cell? ⟨B, 1, none⟩ = some v1 ∧ B < w1.heap.size := ⟨HJ1.out.2.2.1, HJ1.out.2.2.2.1, HJ1.out.2.2.2.2.1⟩
              go_wp2_with fail
              refine (spoil_lst HJ1.out.1).mono ?_
              rintro e w2 ⟨rfl, hl2, hg2⟩
              have hne : ∀ b, v1.ownBlock = some b → some b ≠ v0.ownBlock := fun b e1 e2 => by
                first
                  | exact HD.out b e2.symm e1
                  | exact HD.out b e1 e2.symm
              have HU2 := Lib.hid (HU.out.grown hg2 (fun b e1 e2 => by have h1 := HUB.out b e1; have h2 := HVL.out b e2.symm; omega))
              have HH2 := Lib.hid (HH1.out.grown hg2 hne)
              have HJ2 := Lib.hid (HJ1.out.spoil hg2 (by first | exact HB0.out | exact HB1.out) (by first | exact hl2 | exact HJ1.out.1.grown hg2 hne) (by first | exact hl2 | exact HJ1.out.2.1.grown hg2 hne))
              clear hl2 hg2 c0 c1 hB hne
              obtain ⟨c0, c1, hB⟩ : w2.cell? ⟨B, 0, none⟩ = some v0 ∧ w2.cell? ⟨B, 1, none⟩ = some v1 ∧ B < w2.heap.size := ⟨HJ2.out.2.2.1, HJ2.out.2.2.2.1, HJ2.out.2.2.2.2.1⟩
              go_wp2_with fail
              refine (same_lst HU2.out HH2.out (by rw [HL.out]; omega)).mono ?_
              rintro e w3 ⟨rfl, hb3⟩
              have HJ3 := Lib.hid (HJ2.out.below hb3)
              clear hb3 c0 c1 hB
              go_wp2
              go_roundg (2 - (1 + 1))
              case measure => omega
              case rel => exact ⟨1 + 1, by omega, rfl, by go_num, HJ3.out⟩
            · obtain ⟨c0, c1, hB⟩ : wr.cell? ⟨B, 0, none⟩ = some v0 ∧ wr.cell? ⟨B, 1, none⟩ = some v1 ∧ B < wr.heap.size := ⟨HJ.out.2.2.1, HJ.out.2.2.2.1, HJ.out.2.2.2.2.1⟩
              obtain ⟨L, hL, hH⟩ : ∃ L : List Point, L.length = n0 ∧ Has wr v0 L := by
                have h := HJ.out
                exact Lst.has (by first | exact h.1 | exact h.2.1)
              have HH := Lib.hid hH
              have HL := Lib.hid hL
              clear hH hL
              go_wp2_with fail
              refine (copy_lst HH.out (by rw [HL.out]; omega)).mono ?_
              rintro e w1 ⟨u, rfl, hu, hub, hb1⟩
              have HJ1 := Lib.hid (HJ.out.below hb1)
              have HH1 := Lib.hid (HH.out.below hb1)
              have HU := Lib.hid hu
              have HUB := Lib.hid hub
              have hvlt : ∀ b, v1.ownBlock = some b → b < wr.heap.size := fun b e => Lst.lt (by first | exact HJ.out.1 | exact HJ.out.2.1) e
              have HVL := Lib.hid hvlt
              clear hu hub hb1 c0 c1 hB hvlt
              obtain ⟨c0, c1, hB⟩ : w1.cell? ⟨B, 0, none⟩ = some v0 ∧ w1.cell? ⟨B, 1, none⟩ = some v1 ∧ B < w1.heap.size := ⟨HJ1.out.2.2.1, HJ1.out.2.2.2.1, HJ1.out.2.2.2.2.1⟩
              go_wp2_with fail
              refine (spoil_lst HJ1.out.2.1).mono ?_
              rintro e w2 ⟨rfl, hl2, hg2⟩
              have hne : ∀ b, v0.ownBlock = some b → some b ≠ v1.ownBlock := fun b e1 e2 => by
                first
                  | exact HD.out b e2.symm e1
                  | exact HD.out b e1 e2.symm
              have HU2 := Lib.hid (HU.out.grown hg2 (fun b e1 e2 => by have h1 := HUB.out b e1; have h2 := HVL.out b e2.symm; omega))
              have HH2 := Lib.hid (HH1.out.grown hg2 hne)
              have HJ2 := Lib.hid (HJ1.out.spoil hg2 (by first | exact HB0.out | exact HB1.out) (by first | exact hl2 | exact HJ1.out.1.grown hg2 hne) (by first | exact hl2 | exact HJ1.out.2.1.grown hg2 hne))
              clear hl2 hg2 c0 c1 hB hne
              obtain ⟨c0, c1, hB⟩ : w2.cell? ⟨B, 0, none⟩ = some v0 ∧ w2.cell? ⟨B, 1, none⟩ = some v1 ∧ B < w2.heap.size := ⟨HJ2.out.2.2.1, HJ2.out.2.2.2.1, HJ2.out.2.2.2.2.1⟩
              go_wp2_with fail
              refine (same_lst HU2.out HH2.out (by rw [HL.out]; omega)).mono ?_
              rintro e w3 ⟨rfl, hb3⟩
              have HJ3 := Lib.hid (HJ2.out.below hb3)
              clear hb3 c0 c1 hB
              go_wp2
              go_roundg (2 - (0 + 1))
              case measure => omega
              case rel => exact ⟨0 + 1, by omega, rfl, by go_num, HJ3.out⟩
        · obtain rfl : k = 2 := by omega
          go_wp2
          go_roundg (2 - (i + 1))
          case measure => omega
          case rel => exact ⟨i + 1, by omega, rfl, by go_num, HJ.out⟩
    · obtain rfl : i = 2 := by omega
      go_wp2
      go_ret
      exact ⟨rfl, HJ.out.2.2.2.2.2.2⟩
end Go.Proofs.Ytjidfcogcgaclaa
