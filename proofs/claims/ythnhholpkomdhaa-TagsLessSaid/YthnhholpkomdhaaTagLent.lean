/-
  What is proved here: lists of tags that are lent, looked at again (package outstationkit). Conditions: each theorem's own.
-/
import Derived.Test.YthnhholpkomdhaaTagRows
namespace Go.Proofs.Ythnhholpkomdhaa
open Go.RowKit Go.Deep
attribute [local go_sem ↓ high] loadTag_eq storeTag_eq
attribute [local go_sem] run_storeTag_new run_loadTag_new
attribute [local go_sem high] ne_self

/-- the mark behind a list that is lent. -/
def markT : Tag := ⟨⟨#[97, 32, 109, 97, 114, 107]⟩, 0, 0, 0, 0, ⟨false, false, false, 0, 0, 0⟩, ⟨0, 0⟩, ⟨false, false, false, 0, 0, 0⟩⟩
/-- a list with marks behind it. -/
def Marked (L M : List Tag) : Prop := M.length = L.length + 5 ∧ (∀ j, j < L.length → M.getD j t0 = L.getD j t0) ∧ ∀ j, L.length ≤ j → j < L.length + 5 → M.getD j t0 = markT
theorem getD_set_self {M : List Tag} {k : Nat} (h : k < M.length) (x : Tag) : (M.set k x).getD k t0 = x := by simp [h]
theorem getD_set_ne {M : List Tag} {k j : Nat} (h : j ≠ k) (x : Tag) : (M.set k x).getD j t0 = M.getD j t0 := by simp [Ne.symm h]
def LentT (w : World) (L : List Tag) (e : Ending) (w' : World) : Prop := ∃ g M, e = .returned (.slice (some ⟨g, 0, none⟩) L.length (L.length + 5)) ∧ w.heap.size ≤ g ∧ TRow w' g M ∧ Marked L M ∧ Below w.heap.size w w'

set_option maxHeartbeats 1000000 in
theorem lent_tags (A : Option Addr) (ca : Nat) (L : List Tag) (w : World) (hA : TagsAt w A L) (hlen : L.length * 128 ≤ 140737488351232) :
    Calls Try.prog 17 #[.slice A L.length ca] w (LentT w L) := by
  have HA := Lib.hid hA
  clear hA
  have hmk := fun W => run_make_tags W (L.length + 5) (by omega)
  have ec : ((L.length + 5 : Nat) : Int) = (L.length : Int) + 5 := by omega
  rw [ec] at hmk
  clear ec
  have HB := Lib.hid (TRow.made w (L.length + 5))
  have H0 := Lib.hid (show Below w.heap.size w (w.alloc (.cells (madeCells t0.cells ((L.length + 5) * 19)) 29)) from (Below.refl _ _).alloc (Nat.le_refl _) _)
  go_enter Try.func17, Try.ntmps17
  go_wp2_with fail
  go_loopg [4] L.length (fun g i wr => ∃ k : Nat, k ≤ L.length ∧ g = L.length - k ∧ i = .int .i64 k ∧ (∃ M, M.length = L.length + 5 ∧ TRow wr w.heap.size M ∧ ∀ j, j < k → M.getD j t0 = L.getD j t0) ∧ Below w.heap.size w wr)
  case atStart => exact ⟨0, Nat.zero_le _, rfl, rfl, ⟨_, by simp, HB.out, fun j hj => absurd hj (by omega)⟩, H0.out⟩
  case round =>
    clear HB H0
    obtain ⟨k, hk, rfl, rfl, ⟨M, hM, hrow, hpre⟩, hbw⟩ := hrel
    have HM := Lib.hid hM
    have HP := Lib.hid hpre
    clear hM hpre
    by_cases hlt : k < L.length
    · obtain ⟨b, off, rfl, hb, hr⟩ := HA.out.at_ hbw hlt
      obtain ⟨x, hx⟩ : ∃ x, x = L.getD k t0 := ⟨_, rfl⟩
      rw [← hx] at hr
      have HX := Lib.hid hx
      clear hx
      have hld := range_load hr
      clear hr
      have hst := hrow.run (i := k) (by rw [HM.out]; omega) x
      have HS := Lib.hid (hrow.set (i := k) (by rw [HM.out]; omega) x)
      have HBW := Lib.hid (below_setCells (Nat.le_refl _) x.cells.toList (k * 19) _ hbw)
      clear hrow
      have hki : (k : Int) < (L.length : Int) := by omega
      have hk5 : (k : Int) < (L.length : Int) + 5 := by omega
      have hk0 : (0 : Int) ≤ (k : Int) := by omega
      clear hmk
      go_wp2_with fail
      go_roundg (L.length - (k + 1))
      case measure => omega
      case rel =>
        refine ⟨k + 1, by omega, rfl, by go_num, ⟨_, by rw [List.length_set]; exact HM.out, HS.out, fun j hj => ?_⟩, HBW.out⟩
        by_cases e : j = k
        · subst e; rw [getD_set_self (by rw [HM.out]; omega)]; exact HX.out
        · rw [getD_set_ne e]; exact HP.out j (by omega)
    · obtain rfl : k = L.length := by omega
      clear hmk
      have hki : ¬ (L.length : Int) < (L.length : Int) := by omega
      have HR := Lib.hid hrow
      clear hrow
      go_wp2_with fail
      go_loopg [5] 5 (fun g i wr => ∃ k : Nat, k ≤ L.length + 5 ∧ L.length ≤ k ∧ g = L.length + 5 - k ∧ i = .int .i64 k ∧ (∃ M, M.length = L.length + 5 ∧ TRow wr w.heap.size M ∧ (∀ j, j < L.length → M.getD j t0 = L.getD j t0) ∧ ∀ j, L.length ≤ j → j < k → M.getD j t0 = markT) ∧ Below w.heap.size w wr)
      case atStart => exact ⟨L.length, by omega, Nat.le_refl _, by omega, rfl, ⟨M, HM.out, HR.out, HP.out, fun j h1 h2 => absurd h2 (by omega)⟩, hbw⟩
      case round =>
        clear HM HP HR hbw
        obtain ⟨k, hk, hk1, rfl, rfl, ⟨M, hM, hrow, hpre, hmark⟩, hbw⟩ := hrel
        have HM := Lib.hid hM
        have HP := Lib.hid hpre
        have HMK := Lib.hid hmark
        clear hM hpre hmark
        by_cases hlt : k < L.length + 5
        · have hst : (storeTag ⟨w.heap.size, k * 19, none⟩ (.agg #[.string ⟨#[97, 32, 109, 97, 114, 107]⟩, .int .i64 0, .int .i64 0, .int .i64 0, .int .i64 0, .bool false, .bool false, .bool false, .int .i64 0, .int .i64 0, .int .i64 0, .int .i64 0, .int .i64 0, .bool false, .bool false, .bool false, .int .i64 0, .int .i64 0, .int .i64 0])).run Try.prog wr = .ok () (wr.setCells w.heap.size (k * 19) markT.cells.toList) := hrow.run (i := k) (by rw [HM.out]; omega) markT
          have HS := Lib.hid (hrow.set (i := k) (by rw [HM.out]; omega) markT)
          have HBW := Lib.hid (below_setCells (Nat.le_refl _) markT.cells.toList (k * 19) _ hbw)
          clear hrow
          have hki : (k : Int) < (L.length : Int) + 5 := by omega
          have hk0 : (0 : Int) ≤ (k : Int) := by omega
          go_wp2_with fail
          go_roundg (L.length + 5 - (k + 1))
          case measure => omega
          case rel =>
            refine ⟨k + 1, by omega, by omega, rfl, by go_num, ⟨_, by rw [List.length_set]; exact HM.out, HS.out, fun j hj => ?_, fun j h1 h2 => ?_⟩, HBW.out⟩
            · rw [getD_set_ne (by omega)]; exact HP.out j hj
            · by_cases e : j = k
              · subst e; rw [getD_set_self (by rw [HM.out]; omega)]
              · rw [getD_set_ne e]; exact HMK.out j h1 (by omega)
        · obtain rfl : k = L.length + 5 := by omega
          have hki : ¬ (((L.length + 5 : Nat) : Int) < (L.length : Int) + 5) := by omega
          have HR := Lib.hid hrow
          clear hrow
          go_wp2_with fail
          go_ret
          exact ⟨w.heap.size, M, rfl, Nat.le_refl _, HR.out, ⟨HM.out, HP.out, HMK.out⟩, hbw⟩
theorem marked_begin {w : World} {g : Nat} {L M : List Tag} (h : TRow w g M) (hm : Marked L M) : TagsAt w (some ⟨g, 0, none⟩) L := by
  intro hp
  refine ⟨g, 0, rfl, h.1, fun i hi => ?_⟩
  have := h.2.2 i (by rw [hm.1]; omega)
  rw [hm.2.1 i hi] at this
  rw [Nat.zero_add]
  exact this
set_option maxHeartbeats 1000000 in
theorem kept_tags (g : Nat) (B : Option Addr) (cb : Nat) (L M : List Tag) (w : World) (hrow : TRow w g M) (hm : Marked L M) (hB : TagsAt w B L) (hlen : L.length * 128 ≤ 140737488351232) :
    Calls Try.prog 21 #[.slice (some ⟨g, 0, none⟩) L.length (L.length + 5), .slice B L.length cb] w fun e w' => e = .returned (.bool true) ∧ Below w.heap.size w w' := by
  have HS := Lib.hid (same_tags (some ⟨g, 0, none⟩) B (L.length + 5) cb L w (marked_begin hrow hm) hB (by omega))
  have HB := Lib.hid hrow
  have HM := Lib.hid hm
  have hne : ∀ W, (binOp .neq 29 (.agg markT.cells) (.agg #[.string ⟨#[97, 32, 109, 97, 114, 107]⟩, .int .i64 0, .int .i64 0, .int .i64 0, .int .i64 0, .bool false, .bool false, .bool false, .int .i64 0, .int .i64 0, .int .i64 0, .int .i64 0, .int .i64 0, .bool false, .bool false, .bool false, .int .i64 0, .int .i64 0, .int .i64 0])).run Try.prog W = .ok (.bool false) W := fun W => ne_self markT W
  clear hrow hm hB
  go_enter Try.func21, Try.ntmps21
  go_wp2_with (go_at_call 23; (with_reducible refine (HS.out).mono ?_); rintro e w1 ⟨rfl, hb1⟩)
  go_loopg [6] 5 (fun g' i wr => ∃ k : Nat, k ≤ L.length + 5 ∧ L.length ≤ k ∧ g' = L.length + 5 - k ∧ i = .int .i64 k ∧ Below w.heap.size w wr)
  case atStart => exact ⟨L.length, by omega, Nat.le_refl _, by omega, rfl, hb1⟩
  case round =>
    obtain ⟨k, hk, hk1, rfl, rfl, hbw⟩ := hrel
    by_cases hlt : k < L.length + 5
    · have hld := (HB.out.below hbw HB.out.1).load (i := k) (by rw [HM.out.1]; exact hlt)
      rw [HM.out.2.2 k hk1 hlt] at hld
      have hki : (k : Int) < (L.length : Int) + 5 := by omega
      have hk0 : (0 : Int) ≤ (k : Int) := by omega
      go_wp2_with fail
      go_roundg (L.length + 5 - (k + 1))
      case measure => omega
      case rel => exact ⟨k + 1, by omega, by omega, rfl, by go_num, by (repeat (first | (with_reducible assumption) | (with_reducible exact Below.refl _ _) | ((with_reducible refine Below.setCell ?_ ?_ _); rotate_left; · (first | omega | (simp; done) | (simp; omega) | (simp at *; omega))) | ((with_reducible refine Below.alloc ?_ ?_ _); rotate_left; · (first | omega | (simp; done) | (simp; omega) | (simp at *; omega))) | (with_reducible refine Below.drew ?_) | (with_reducible refine below_drewN ?_ _) | ((refine Below.trans ?_ (Below.mono (by with_reducible assumption) ?_)); rotate_left; · (first | omega | (simp; done) | (simp; omega) | (simp at *; omega)))))⟩
    · obtain rfl : k = L.length + 5 := by omega
      have hki : ¬ (((L.length + 5 : Nat) : Int) < (L.length : Int) + 5) := by omega
      go_wp2_with fail
      go_ret
      exact ⟨rfl, hbw⟩
end Go.Proofs.Ythnhholpkomdhaa
