/-
  What is proved here: what is wrong with a table, as the reference tells it; where a name is found in a list (chapter 9). Conditions: each theorem's own.
-/
import Derived.Test.YthnhholpkomdhaaTagAll
import Derived.Deep.QuietTactic
import Derived.BigQuiet
namespace Go.Proofs.Ythnhholpkomdhaa
open Go.RowKit Go.Deep
attribute [local go_sem ↓ high] loadTag_eq storeTag_eq
attribute [local go_sem] run_storeTag_new run_loadTag_new

theorem tagAt_zero {L : List Tag} (h : (L.getD 0 t0).err = 0) : tagAt L 0 = 0 := tagAt_fine h (fun h => absurd h (by omega)) (by rw [show lastOf L 0 = ByteArray.empty from rfl, sLt_empty])
theorem lastOf_succ (L : List Tag) (k : Nat) : lastOf L (k + 1) = (L.getD k t0).g := rfl
set_option maxRecDepth 100000 in
set_option maxHeartbeats 1000000 in
theorem rall_any (A : Option Addr) (ca : Nat) (L : List Tag) (w : World) (hA : TagsAt w A L) (hN : NamesFit L) (hlen : L.length ≤ 9223372036854775807) :
    Calls Try.prog 18 #[.slice A L.length ca] w fun e w' => e = .returned (.tuple #[.int .i64 (allOf L).1, .int .i64 ((allOf L).2 : Nat)]) ∧ Below w.heap.size w w' := by
  have HA := Lib.hid hA
  have HN := Lib.hid hN
  clear hA hN
  by_cases h64 : 64 < L.length
  · have HD := Lib.hid (allOf_many h64)
    have g64 : (64 : Int) < (L.length : Int) := by omega
    go_enter Try.func18, Try.ntmps18
    go_wp2_with fail
    go_ret2
    exact ⟨by rw [HD.out]; rfl, Below.refl _ _⟩
  have g64 : ¬ (64 : Int) < (L.length : Int) := by omega
  have H64 := Lib.hid h64
  clear h64
  go_enter Try.func18, Try.ntmps18
  go_wp2_with fail
  go_loopg [4] L.length (fun g i wr => ∃ k : Nat, k ≤ L.length ∧ g = L.length - k ∧ i = .int .i64 k ∧ (∀ j, j < k → tagAt L j = 0) ∧ Below w.heap.size w wr)
  case atStart => exact ⟨0, Nat.zero_le _, rfl, rfl, fun j hj => absurd hj (by omega), Below.refl _ _⟩
  case round =>
    obtain ⟨k, hk, rfl, rfl, hfine, hbw⟩ := hrel
    have HF := Lib.hid hfine
    clear hfine
    by_cases hlt : k < L.length
    · obtain ⟨b, off, rfl, hb, hrr⟩ := HA.out (by omega)
      have HRR := Lib.hid hrr
      clear hrr
      have hN := HN.out k hlt
      have hr := rangeAt_below (HRR.out k hlt) hbw hb
      obtain ⟨x, hx⟩ : ∃ x, x = L.getD k t0 := ⟨_, rfl⟩
      rw [← hx] at hr hN
      have HX := Lib.hid hx
      have HNX := Lib.hid hN
      clear hx hN
      have hld := range_load hr
      have HR := Lib.hid hr
      clear hr
      have hki : (k : Int) < (L.length : Int) := by omega
      have hk0 : (0 : Int) ≤ (k : Int) := by omega
      go_upto_region 7 with (go_at_call 14; (with_reducible refine (tag_rcheck x _ HNX.out).mono ?_); rintro e w1 ⟨rfl, hb1⟩)
      have hbw1 : Below w.heap.size w w1 := hbw.trans (hb1.mono hbw.size)
      have hr1 := rangeAt_below (HRR.out k hlt) hbw1 hb
      rw [← HX.out] at hr1
      have c1 := range_name hr1
      clear hld HR hb1 hr1
      obtain ⟨er, her⟩ : ∃ er, er = x.err := ⟨_, rfl⟩
      rw [← her]
      have HE := Lib.hid her
      clear her
      by_cases hz : er = 0
      · subst hz
        have HZ := Lib.hid (show (L.getD k t0).err = 0 by rw [← HX.out, ← HE.out])
        by_cases hk1 : 0 < k
        · obtain ⟨k', rfl⟩ : ∃ k', k = k' + 1 := ⟨k - 1, by omega⟩
          have hr2 := rangeAt_below (HRR.out k' (by omega)) hbw1 hb
          obtain ⟨y, hy⟩ : ∃ y, y = L.getD k' t0 := ⟨_, rfl⟩
          rw [← hy] at hr2
          have c2 := range_name hr2
          have HLA := Lib.hid (show lastOf L (k' + 1) = y.g by rw [lastOf_succ, ← hy])
          clear hr2 hy
          obtain ⟨q, hq⟩ : ∃ q, q = sEq x.g y.g := ⟨_, rfl⟩
          have hq' : (x.g.toList == y.g.toList) = q := hq.symm
          have HQ := Lib.hid (show sEq (L.getD (k' + 1) t0).g (lastOf L (k' + 1)) = q by rw [← HX.out, HLA.out, hq])
          clear hq
          obtain ⟨r, hr⟩ : ∃ r, r = sLt x.g y.g := ⟨_, rfl⟩
          have hr' : Op.bytesLess x.g.toList y.g.toList = r := hr.symm
          have HRL := Lib.hid (show sLt (L.getD (k' + 1) t0).g (lastOf L (k' + 1)) = r by rw [← HX.out, HLA.out, hr])
          clear hr
          have hk1' : (0 : Int) < ((k' + 1 : Nat) : Int) := by omega
          have hk2 : (k' : Int) < (L.length : Int) := by omega
          have hk3 : (0 : Int) ≤ (k' : Int) := by omega
          have E1 : IntKind.i64.wrap ((k' : Int) + 1 - 1) = (k' : Int) := by rw [show (k' : Int) + 1 - 1 = k' by omega]; exact IntWalk.i64_in _ (by omega)
          cases q
          · cases r
            · have HT := Lib.hid (tagAt_fine HZ.out (fun _ => HQ.out) HRL.out)
              go_wp2_with fail
              go_quiet (fail)
              go_wp2_with fail
              go_quiet (fail)
              go_wp2_with fail
              go_roundg (L.length - (k' + 1 + 1))
              case measure => omega
              case rel =>
                refine ⟨k' + 1 + 1, by omega, rfl, by go_num, fun j hj => ?_, by (repeat (first | (with_reducible assumption) | (with_reducible exact Below.refl _ _) | ((with_reducible refine Below.setCell ?_ ?_ _); rotate_left; · (first | omega | (simp; done) | (simp; omega) | (simp at *; omega))) | ((with_reducible refine Below.alloc ?_ ?_ _); rotate_left; · (first | omega | (simp; done) | (simp; omega) | (simp at *; omega))) | (with_reducible refine Below.drew ?_) | (with_reducible refine below_drewN ?_ _) | ((refine Below.trans ?_ (Below.mono (by with_reducible assumption) ?_)); rotate_left; · (first | omega | (simp; done) | (simp; omega) | (simp at *; omega)))))⟩
                by_cases e : j = k' + 1
                · rw [e]; exact HT.out
                · exact HF.out j (by omega)
            · have HD := Lib.hid (allOf_at H64.out hlt HF.out (tagAt_order HZ.out (fun _ => HQ.out) HRL.out) (by decide))
              go_wp2_with fail
              go_quiet (fail)
              go_wp2_with fail
              go_quiet (fail)
              go_wp2_with fail
              go_ret2
              exact ⟨by rw [HD.out]; rfl, by (repeat (first | (with_reducible assumption) | (with_reducible exact Below.refl _ _) | ((with_reducible refine Below.setCell ?_ ?_ _); rotate_left; · (first | omega | (simp; done) | (simp; omega) | (simp at *; omega))) | ((with_reducible refine Below.alloc ?_ ?_ _); rotate_left; · (first | omega | (simp; done) | (simp; omega) | (simp at *; omega))) | (with_reducible refine Below.drew ?_) | (with_reducible refine below_drewN ?_ _) | ((refine Below.trans ?_ (Below.mono (by with_reducible assumption) ?_)); rotate_left; · (first | omega | (simp; done) | (simp; omega) | (simp at *; omega)))))⟩
          · have HD := Lib.hid (allOf_at H64.out hlt HF.out (tagAt_twice HZ.out hk1 HQ.out) (by decide))
            go_wp2_with fail
            go_quiet (fail)
            go_wp2_with fail
            go_ret2
            exact ⟨by rw [HD.out]; rfl, by (repeat (first | (with_reducible assumption) | (with_reducible exact Below.refl _ _) | ((with_reducible refine Below.setCell ?_ ?_ _); rotate_left; · (first | omega | (simp; done) | (simp; omega) | (simp at *; omega))) | ((with_reducible refine Below.alloc ?_ ?_ _); rotate_left; · (first | omega | (simp; done) | (simp; omega) | (simp at *; omega))) | (with_reducible refine Below.drew ?_) | (with_reducible refine below_drewN ?_ _) | ((refine Below.trans ?_ (Below.mono (by with_reducible assumption) ?_)); rotate_left; · (first | omega | (simp; done) | (simp; omega) | (simp at *; omega)))))⟩
        · obtain rfl : k = 0 := by omega
          have HT := Lib.hid (tagAt_zero HZ.out)
          have hk1' : decide ((0 : Int) < ((0 : Nat) : Int)) = false := by decide
          go_wp2_with fail
          go_quiet (fail)
          go_wp2_with fail
          go_quiet (fail)
          go_wp2_with fail
          go_roundg (L.length - (0 + 1))
          case measure => omega
          case rel =>
            refine ⟨0 + 1, by omega, rfl, by go_num, fun j hj => ?_, by (repeat (first | (with_reducible assumption) | (with_reducible exact Below.refl _ _) | ((with_reducible refine Below.setCell ?_ ?_ _); rotate_left; · (first | omega | (simp; done) | (simp; omega) | (simp at *; omega))) | ((with_reducible refine Below.alloc ?_ ?_ _); rotate_left; · (first | omega | (simp; done) | (simp; omega) | (simp at *; omega))) | (with_reducible refine Below.drew ?_) | (with_reducible refine below_drewN ?_ _) | ((refine Below.trans ?_ (Below.mono (by with_reducible assumption) ?_)); rotate_left; · (first | omega | (simp; done) | (simp; omega) | (simp at *; omega)))))⟩
            obtain rfl : j = 0 := by omega
            exact HT.out
      · have n1 : (er != 0) = true := by rw [bne_iff_ne]; exact hz
        have HD := Lib.hid (allOf_at H64.out hlt HF.out (show tagAt L k = er by rw [tagAt_err (by rw [← HX.out, ← HE.out]; exact hz), ← HX.out, ← HE.out]) hz)
        clear hz
        go_wp2_with fail
        go_ret2
        exact ⟨by rw [HD.out]; rfl, hbw1⟩
    · obtain rfl : k = L.length := by omega
      have hki : ¬ (L.length : Int) < (L.length : Int) := by omega
      have HD := Lib.hid (allOf_none H64.out HF.out)
      go_wp2_with fail
      go_ret2
      exact ⟨by rw [HD.out]; rfl, hbw⟩
end Go.Proofs.Ythnhholpkomdhaa
