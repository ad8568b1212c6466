/-
  What is proved here: whether a text is a name, as the reference tells it (chapter 9). Conditions: none beyond a text's length.
-/
import Derived.Test.YthnhholpkomdhaaName
namespace Go.Proofs.Ythnhholpkomdhaa
open Go.RowKit Go.Deep

theorem letter_yes (c : Nat) (w : World) (h : letterP c) :
    Calls Try.prog 24 #[.int .u8 c] w fun e w' => e = .returned (.bool true) ∧ w = w' := by
  rcases h with ⟨h1, h2⟩ | ⟨h1, h2⟩
  all_goals
    go_enter Try.func24, Try.ntmps24
    go_wp2
    all_goals
      first
        | (exfalso; omega)
        | (go_ret
           exact ⟨by first | rfl | exact ret_bool (by simp; omega), rfl⟩)
theorem letter_no (c : Nat) (w : World) (h : ¬ letterP c) :
    Calls Try.prog 24 #[.int .u8 c] w fun e w' => e = .returned (.bool false) ∧ w = w' := by
  have hcls : c < 65 ∨ (91 ≤ c ∧ c ≤ 96) ∨ 123 ≤ c := by unfold letterP at h; omega
  clear h
  rcases hcls with h | ⟨h, h'⟩ | h
  all_goals
    go_enter Try.func24, Try.ntmps24
    go_wp2
    all_goals
      first
        | (exfalso; omega)
        | (go_ret
           exact ⟨by first | rfl | exact ret_bool (by simp; omega), rfl⟩)
theorem letter_any (c : Nat) (w : World) :
    Calls Try.prog 24 #[.int .u8 c] w fun e w' => e = .returned (.bool (decide (letterP c))) ∧ w = w' := by
  by_cases h : letterP c
  · rw [decide_eq_true h]; exact letter_yes c w h
  · rw [decide_eq_false h]; exact letter_no c w h
def Mid (s : ByteArray) (k : Nat) : Prop := ∀ i, i < k → restP (byteAt s i)
theorem rname_bad {s : ByteArray} {k : Nat} (hk : k < s.size) (h : ¬ restP (byteAt s k)) : nameB s = false := decide_eq_false fun hn => h (hn.2.2.2 k hk)

set_option maxHeartbeats 4000000 in
theorem rname_any (s : ByteArray) (w : World) (hs : s.size ≤ 9223372036854775807) :
    Calls Try.prog 10 #[.string s] w fun e w' => e = .returned (.bool (nameB s)) ∧ w = w' := by
  by_cases h1 : s.size < 1
  · have HF := Lib.hid (show nameB s = false from decide_eq_false fun hn => by have := hn.1; omega)
    have h1' : (s.size : Int) < 1 := by omega
    go_enter Try.func10, Try.ntmps10
    go_wp2
    go_ret
    exact ⟨ret_bool HF.out.symm, rfl⟩
  by_cases h2 : 16 < s.size
  · have HF := Lib.hid (show nameB s = false from decide_eq_false fun hn => by have := hn.2.1; omega)
    have h1' : ¬ (s.size : Int) < 1 := by omega
    have h2' : (16 : Int) < (s.size : Int) := by omega
    go_enter Try.func10, Try.ntmps10
    go_wp2
    go_ret
    exact ⟨ret_bool HF.out.symm, rfl⟩
  have h1' : ¬ (s.size : Int) < 1 := by omega
  have h2' : ¬ (16 : Int) < (s.size : Int) := by omega
  have hlt0 : 0 < s.size := by omega
  have hg0 := byteAt_get s 0 hlt0
  obtain ⟨c0, hc0⟩ : ∃ c, c = s[0].toNat := ⟨_, rfl⟩
  have H0 := Lib.hid (show c0 = byteAt s 0 by rw [hc0, hg0])
  have HC0 := Lib.hid hc0
  have h00 : (0 : Int) < (s.size : Int) := by omega
  clear hg0 hc0
  by_cases hl : ¬ letterP c0
  · have HF := Lib.hid (show nameB s = false from decide_eq_false fun hn => hl (by rw [H0.out]; exact hn.2.2.1))
    have HL := Lib.hid hl
    clear hl
    go_enter Try.func10, Try.ntmps10
    go_wp2_with fail
    rw [← HC0.out]
    refine (letter_no c0 _ HL.out).mono ?_
    rintro e w1 ⟨rfl, rfl⟩
    go_wp2_with fail
    go_ret
    exact ⟨ret_bool HF.out.symm, rfl⟩
  have hl := Decidable.not_not.1 hl
  have HL := Lib.hid hl
  clear hl
  go_enter Try.func10, Try.ntmps10
  go_wp2_with fail
  rw [← HC0.out]
  refine (letter_yes c0 _ HL.out).mono ?_
  rintro e w1 ⟨rfl, rfl⟩
  go_wp2_with fail
  go_loopg [3] s.size (fun g i wr => ∃ k : Nat, k ≤ s.size ∧ g = s.size - k ∧ i = .int .i64 k ∧ Mid s k ∧ w = wr)
  case atStart => exact ⟨0, Nat.zero_le _, rfl, rfl, fun i h => absurd h (by omega), rfl⟩
  case round =>
    obtain ⟨k, hk, rfl, rfl, hup, rfl⟩ := hrel
    have HU := Lib.hid hup
    clear hup
    by_cases hlt : k < s.size
    · have hki : (k : Int) < (s.size : Int) := by omega
      have hk0 : (0 : Int) ≤ (k : Int) := by omega
      have hget := byteAt_get s k hlt
      obtain ⟨c, hc⟩ : ∃ c, c = s[k].toNat := ⟨_, rfl⟩
      have HC := Lib.hid (show c = byteAt s k by rw [hc, hget])
      have HCC := Lib.hid hc
      clear hc hget
      by_cases hr : restP c
      · have HN := Lib.hid (show Mid s (k + 1) from fun i hi => by
          by_cases e : i = k
          · subst e; rw [← HC.out]; exact hr
          · exact HU.out i (by omega))
        by_cases hl : letterP c
        · have HLL := Lib.hid hl
          clear hr hl
          go_wp2_with fail
          rw [← HCC.out]
          refine (letter_yes c _ HLL.out).mono ?_
          rintro e w1 ⟨rfl, rfl⟩
          go_wp2_with fail
          go_roundg (s.size - (k + 1))
          case measure => omega
          case rel => exact ⟨k + 1, by omega, rfl, by go_num, HN.out, rfl⟩
        · have HLL := Lib.hid hl
          rcases hr with hr | ⟨h3, h4⟩ | hr
          · exact absurd hr hl
          · clear hl
            go_wp2_with fail
            rw [← HCC.out]
            refine (letter_no c _ HLL.out).mono ?_
            rintro e w1 ⟨rfl, rfl⟩
            go_wp2_with fail
            all_goals
              first
                | (exfalso; omega)
                | (go_roundg (s.size - (k + 1))
                   case measure => omega
                   case rel => exact ⟨k + 1, by omega, rfl, by go_num, HN.out, rfl⟩)
          · have h5 : c = 95 ∨ c = 46 ∨ c = 45 := hr
            clear hl hr
            go_wp2_with fail
            rw [← HCC.out]
            refine (letter_no c _ HLL.out).mono ?_
            rintro e w1 ⟨rfl, rfl⟩
            clear HLL HCC HC
            rcases h5 with rfl | rfl | rfl
            all_goals
              go_wp2_with fail
              all_goals
                first
                  | (exfalso; omega)
                  | (go_roundg (s.size - (k + 1))
                     case measure => omega
                     case rel => exact ⟨k + 1, by omega, rfl, by go_num, HN.out, rfl⟩)
      · have HF := Lib.hid (rname_bad (s := s) hlt (by rw [← HC.out]; exact hr))
        have HLL := Lib.hid (show ¬ letterP c from fun h => hr (.inl h))
        have e1 : ((c : Int) != 95) = true := by rw [bne_iff_ne]; unfold restP at hr; omega
        have e2 : ((c : Int) != 46) = true := by rw [bne_iff_ne]; unfold restP at hr; omega
        have e3 : ((c : Int) != 45) = true := by rw [bne_iff_ne]; unfold restP at hr; omega
        have hcls : c < 48 ∨ 57 < c := by unfold restP at hr; omega
        clear hr
        rcases hcls with h | h
        all_goals
          go_wp2_with fail
          rw [← HCC.out]
          refine (letter_no c _ HLL.out).mono ?_
          rintro e w1 ⟨rfl, rfl⟩
          go_wp2_with fail
          all_goals
            first
              | (exfalso; omega)
              | (go_ret
                 exact ⟨ret_bool HF.out.symm, rfl⟩)
    · obtain rfl : k = s.size := by omega
      have hki : ¬ (s.size : Int) < (s.size : Int) := by omega
      have HF := Lib.hid (show nameB s = true from decide_eq_true ⟨by omega, by omega, by rw [← H0.out]; exact HL.out, HU.out⟩)
      go_wp2_with fail
      go_ret
      exact ⟨ret_bool HF.out.symm, rfl⟩
end Go.Proofs.Ythnhholpkomdhaa
