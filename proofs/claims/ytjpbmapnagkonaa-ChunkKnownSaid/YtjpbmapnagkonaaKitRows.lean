/-
  What is proved here: two rows of lists of bytes that are alike are told so (package outstationkit). Conditions: none beyond each theorem's own.
-/
import Derived.Test.YtjpbmapnagkonaaChkScan2
namespace Go.Proofs.Ytjpbmapnagkonaa
open Go.RowKit Go.Deep Go.Joins Go.WideShapes

/-- a slice of slices that reads as these lists of bytes. -/
def RowsAt (w : World) (A : Option Addr) (Ps : List (List Int)) : Prop :=
  0 < Ps.length → ∃ b off, A = some ⟨b, off, none⟩ ∧ b < w.heap.size ∧ ∀ i, i < Ps.length → ∃ Ai ci, w.cell? ⟨b, off + i, none⟩ = some (.slice Ai (Ps.getD i []).length ci) ∧ IntsAt .u8 w Ai (Ps.getD i []) ∧ (Ps.getD i []).length ≤ ci ∧ (Ai = none → ci = 0)
theorem RowsAt.below {w w' : World} {B : Nat} {A : Option Addr} {Ps : List (List Int)} (h : RowsAt w A Ps) (hb : Below B w w') (hB : w.heap.size ≤ B) : RowsAt w' A Ps := by
  intro hp
  obtain ⟨b, off, e, hlt, hc⟩ := h hp
  refine ⟨b, off, e, Nat.lt_of_lt_of_le hlt hb.size, fun i hi => ?_⟩
  obtain ⟨Ai, ci, h1, h2, h3⟩ := hc i hi
  exact ⟨Ai, ci, (hb.cell (p := ⟨b, off + i, none⟩) (Nat.lt_of_lt_of_le hlt hB)).trans h1, h2.below hb hB, h3⟩
theorem RowsAt.nil_ (w : World) (A : Option Addr) : RowsAt w A [] := fun h => absurd h (by simp)
theorem RowsOwn.at_ {w : World} {base cap n : Nat} {A : Option Addr} {Ps : List (List Int)} (h : RowsOwn w base (.slice A n cap) Ps) : RowsAt w A Ps := by
  intro hp
  obtain ⟨xs, ho, hr⟩ := h
  rcases ho.1.2 with ⟨_, h0⟩ | ⟨g, c, cur, hv, hb, hh, hn, hm, hs, ht⟩
  · omega
  cases hv
  have hlt : g < w.heap.size := by
    rcases Nat.lt_or_ge g w.heap.size with hlt | hge
    · exact hlt
    · rw [Array.getElem?_eq_none hge] at hh; cases hh
  refine ⟨g, 0, rfl, hlt, fun i hi => ?_⟩
  obtain ⟨Ai, ci, e1, e2⟩ := hr i hi
  refine ⟨Ai, ci, ?_, own_ints e2, own_cap e2⟩
  have hc := cell_of_row w g i cur 22 (0, 0) hh
  rw [Nat.zero_add, hc, ← Array.getElem?_toList]
  have e3 : (cur.toList.take (Ps.length * 1))[i]? = xs[i]? := by rw [ht]
  rw [List.getElem?_take, if_pos (by omega)] at e3
  rw [e3, e1]

set_option maxHeartbeats 1000000 in
theorem rows_yes (A B : Option Addr) (ca cb n : Nat) (Ps : List (List Int)) (w : World) (hln : Ps.length = n) (hA : RowsAt w A Ps) (hB : RowsAt w B Ps) (hn : n ≤ 140737488351232) (hl : ∀ i, i < n → (Ps.getD i []).length ≤ 140737488351232) :
    Calls Try.prog 22 #[.slice A n ca, .slice B n cb] w fun e w' => e = .returned (.bool true) ∧ Below w.heap.size w w' := by
  have HA := Lib.hid hA
  have HB := Lib.hid hB
  have HN := Lib.hid hln
  have HL := Lib.hid hl
  clear hA hB hln hl
  go_enter Try.func22, Try.ntmps22
  go_wp2
  go_loopg [5] n (fun g i wr => ∃ k : Nat, k ≤ n ∧ g = n - k ∧ i = .int .i64 k ∧ Below w.heap.size w wr)
  case atStart => exact ⟨0, Nat.zero_le _, rfl, rfl, Below.refl _ _⟩
  case round =>
    obtain ⟨k, hk, rfl, rfl, hbw⟩ := hrel
    by_cases hlt : k < n
    · obtain ⟨b, off, rfl, hbl, hS⟩ := HA.out (by rw [HN.out]; omega)
      obtain ⟨b2, off2, rfl, hbl2, hS2⟩ := HB.out (by rw [HN.out]; omega)
      obtain ⟨A1, c1, h0, i1, _⟩ := hS k (by rw [HN.out]; omega)
      obtain ⟨A2, c2, e0, i2, _⟩ := hS2 k (by rw [HN.out]; omega)
      obtain ⟨P, hP⟩ : ∃ P, P = Ps.getD k [] := ⟨_, rfl⟩
      have hpl := HL.out k hlt
      rw [← hP] at h0 e0 i1 i2 hpl
      have g1 := (hbw.cell (p := ⟨b, off + k, none⟩) hbl).trans h0
      have g2 := (hbw.cell (p := ⟨b2, off2 + k, none⟩) hbl2).trans e0
      have R1 := Lib.hid (show Reads .u8 wr (.slice A1 P.length c1) P from ⟨A1, c1, rfl, i1.below hbw (Nat.le_refl _)⟩)
      have R2 := Lib.hid (show Reads .u8 wr (.slice A2 P.length c2) P from ⟨A2, c2, rfl, i2.below hbw (Nat.le_refl _)⟩)
      have HB1 := Lib.hid hbw
      have j1 : b < wr.heap.size := Nat.lt_of_lt_of_le hbl hbw.size
      have j2 : b2 < wr.heap.size := Nat.lt_of_lt_of_le hbl2 hbw.size
      have hki : (k : Int) < (n : Int) := by omega
      have hk0 : (0 : Int) ≤ (k : Int) := by omega
      clear hS hS2 hP h0 e0 i1 i2 hbw
      go_upto_region 6 with fail
      go_cut [26] (fun s26 wy => s26 = .bool false ∧ Below wr.heap.size wr wy)
      case first =>
        go_region_held3 (fun w' => w'.cell? ⟨b, off + k, none⟩ = some (.slice A1 P.length c1) ∧ w'.cell? ⟨b2, off2 + k, none⟩ = some (.slice A2 P.length c2) ∧ Below wr.heap.size wr w')
          (first
            | exact ⟨g1, g2, (Below.refl _ _).drew⟩
            | (go_split_ands; refine ⟨(hb.cell (p := ⟨b, off + k, none⟩) (Nat.lt_of_lt_of_le j1 (Below.size (by assumption)))).trans (by assumption), (hb.cell (p := ⟨b2, off2 + k, none⟩) (Nat.lt_of_lt_of_le j2 (Below.size (by assumption)))).trans (by assumption), Below.trans (by assumption) (hb.mono (Below.size (by assumption)))⟩))
          (first
            | (go_at_call 14; (try go_split_ands); (with_reducible refine (Bytes.same_yes (L := P) (R1.out.below ((Below.refl _ _).drew)) (R2.out.below ((Below.refl _ _).drew)) hpl).mono ?_); rintro e w' ⟨rfl, hb⟩; have hk : Below wr.heap.size wr w' := (by first | exact hk.trans (hb.mono hk.size) | exact (Below.refl _ _).drew.trans hb)))
        go_wp2_with fail
        go_meet
        go_split_ands
        exact ⟨rfl, by assumption⟩
      case rest =>
      obtain ⟨rfl, hby⟩ := hcut
      obtain ⟨wy, rfl⟩ : ∃ wq : World, wq = wc := ⟨_, rfl⟩
      clear g1 g2
      go_wp2_with fail
      go_roundg (n - (k + 1))
      case measure => omega
      case rel => exact ⟨k + 1, by omega, rfl, by go_num, HB1.out.trans (hby.mono HB1.out.size)⟩
    · obtain rfl : k = n := by omega
      have hki : ¬ (k : Int) < (k : Int) := by omega
      have HB1 := Lib.hid hbw
      go_wp2
      go_ret
      exact ⟨rfl, HB1.out⟩
end Go.Proofs.Ytjpbmapnagkonaa
