/-
  What is proved here: whether a text is a name, as package tags and the reference tell it (chapter 9). Conditions: none beyond a text's length.
-/
import Derived.Test.YthnhholpkomdhaaRows
import Derived.Test.YthnhholpkomdhaaCore
import Derived.BigQuiet
import Derived.Deep.QuietTactic
import Derived.Deep.LoopGhost
import Derived.WalkLawsBesides
import Derived.WalkSpells
import Derived.BigGuardPart
import Derived.Deep.DeepCutAuto
import Derived.IntWalk
import Derived.Laws.RangeAny
namespace Go.Proofs.Ythnhholpkomdhaa
open Go.RowKit Go.Deep

def letterP (c : Nat) : Prop := (97 ≤ c ∧ c ≤ 122) ∨ (65 ≤ c ∧ c ≤ 90)
def restP (c : Nat) : Prop := letterP c ∨ (48 ≤ c ∧ c ≤ 57) ∨ c = 95 ∨ c = 46 ∨ c = 45
instance (c : Nat) : Decidable (letterP c) := by unfold letterP; infer_instance
instance (c : Nat) : Decidable (restP c) := by unfold restP; infer_instance
/-- the byte at a place; 0 behind the end. -/
def byteAt (s : ByteArray) (i : Nat) : Nat := (s.data.toList.getD i 0).toNat
theorem byteAt_get (s : ByteArray) (i : Nat) (h : i < s.size) : s[i].toNat = byteAt s i := by
  unfold byteAt
  have : i < s.data.toList.length := by simpa using h
  rw [List.getD_eq_getElem?_getD, List.getElem?_eq_getElem this]
  rfl
def NameP (s : ByteArray) : Prop := 1 ≤ s.size ∧ s.size ≤ 16 ∧ letterP (byteAt s 0) ∧ ∀ i, i < s.size → restP (byteAt s i)
instance (s : ByteArray) : Decidable (NameP s) := by unfold NameP; infer_instance
def nameB (s : ByteArray) : Bool := decide (NameP s)
/-- the bytes ahead of a place may stand in a name. -/
def UpTo (s : ByteArray) (k : Nat) : Prop := (0 < k → letterP (byteAt s 0)) ∧ ∀ i, i < k → restP (byteAt s i)
theorem UpTo.zero (s : ByteArray) : UpTo s 0 := ⟨fun h => absurd h (by omega), fun i h => absurd h (by omega)⟩
theorem UpTo.more {s : ByteArray} {k : Nat} (h : UpTo s k) (h1 : letterP (byteAt s k) ∨ 0 < k ∧ restP (byteAt s k)) : UpTo s (k + 1) := by
  refine ⟨fun _ => ?_, fun i hi => ?_⟩
  · by_cases hk : 0 < k
    · exact h.1 hk
    · obtain rfl : k = 0 := by omega
      rcases h1 with h1 | h1
      · exact h1
      · omega
  · by_cases e : i = k
    · subst e
      rcases h1 with h1 | h1
      · exact .inl h1
      · exact h1.2
    · exact h.2 i (by omega)
theorem name_bad {s : ByteArray} {k : Nat} (hk : k < s.size) (h : ¬ (letterP (byteAt s k) ∨ 0 < k ∧ restP (byteAt s k))) : nameB s = false := by
  refine decide_eq_false fun hn => h ?_
  by_cases h0 : 0 < k
  · exact .inr ⟨h0, hn.2.2.2 k hk⟩
  · obtain rfl : k = 0 := by omega
    exact .inl hn.2.2.1
theorem name_end {s : ByteArray} (h : UpTo s s.size) : nameB s = decide (1 ≤ s.size ∧ s.size ≤ 16) := by
  unfold nameB
  rw [decide_eq_decide]
  exact ⟨fun hn => ⟨hn.1, hn.2.1⟩, fun hn => ⟨hn.1, hn.2, h.1 (by omega), h.2⟩⟩
theorem name_end_yes {s : ByteArray} (h : UpTo s s.size) (h1 : 1 ≤ s.size) (h2 : s.size ≤ 16) : nameB s = true := by rw [name_end h, decide_eq_true ⟨h1, h2⟩]
theorem name_end_no {s : ByteArray} (h : UpTo s s.size) (h1 : ¬ (1 ≤ s.size ∧ s.size ≤ 16)) : nameB s = false := by rw [name_end h, decide_eq_false h1]

set_option maxHeartbeats 4000000 in
theorem name_any (s : ByteArray) (w : World) (hs : s.size ≤ 9223372036854775807) :
    Calls Try.prog 9 #[.string s] w fun e w' => e = .returned (.bool (nameB s)) ∧ Below w.heap.size w w' := by
  go_enter Try.func9, Try.ntmps9
  go_wp2
  go_loopg [3] s.size (fun g _ wr => ∃ k : Nat, k ≤ s.size ∧ g = s.size - k ∧ UpTo s k ∧ wr = w.iter s k)
  case atStart => exact ⟨0, Nat.zero_le _, rfl, UpTo.zero s, rfl⟩
  case round =>
    obtain ⟨k, hk, rfl, hup, rfl⟩ := hrel
    have HU := Lib.hid hup
    clear hup
    have hbel : Below w.heap.size w (w.iter s k) := (Below.refl _ _).alloc (Nat.le_refl _) _
    have HB := Lib.hid hbel
    clear hbel
    by_cases hlt : k < s.size
    · have hbel2 : Below w.heap.size w (w.iter s (k + (Utf8.decode s k).2)) := (Below.refl _ _).alloc (Nat.le_refl _) _
      have HB2 := Lib.hid hbel2
      have hbel3 : Below w.heap.size w (w.iter s (k + 1)) := (Below.refl _ _).alloc (Nat.le_refl _) _
      have HB3 := Lib.hid hbel3
      clear hbel2 hbel3
      have hget := byteAt_get s k hlt
      by_cases ha : s[k].toNat < 128
      · have hnx := fun ty => run_next_ascii (P := Try.prog) w s k ty hlt ha
        obtain ⟨c, hc⟩ : ∃ c, c = s[k].toNat := ⟨_, rfl⟩
        have HC := Lib.hid (show c = byteAt s k by rw [hc, hget])
        rw [← hc] at hnx ha
        clear hc hget
        by_cases hl : letterP c
        · have HN := Lib.hid (HU.out.more (.inl (by rw [← HC.out]; exact hl)))
          rcases hl with ⟨h1, h2⟩ | ⟨h1, h2⟩
          all_goals
            go_wp2
            all_goals
              first
                | (exfalso; omega)
                | (go_roundg (s.size - (k + 1))
                   case measure => omega
                   case rel => exact ⟨k + 1, by omega, rfl, HN.out, rfl⟩)
        · by_cases h0 : 0 < k
          · have h0' : (0 : Int) < (k : Int) := by omega
            by_cases hr : restP c
            · have HN := Lib.hid (HU.out.more (.inr ⟨h0, by rw [← HC.out]; exact hr⟩))
              rcases hr with hr | ⟨h1, h2⟩ | hr | hr | hr
              · exact absurd hr hl
              · clear hl
                go_wp2
                all_goals
                  first
                    | (exfalso; omega)
                    | (go_roundg (s.size - (k + 1))
                       case measure => omega
                       case rel => exact ⟨k + 1, by omega, rfl, HN.out, rfl⟩)
              all_goals
                subst hr
                clear hl
                go_wp2
                all_goals
                  first
                    | (exfalso; omega)
                    | (go_roundg (s.size - (k + 1))
                       case measure => omega
                       case rel => exact ⟨k + 1, by omega, rfl, HN.out, rfl⟩)
            · have HF := Lib.hid (name_bad (s := s) hlt (by rw [← HC.out]; rintro (h | h); exact hl h; exact hr h.2))
              have e1 : ((c : Int) == 95) = false := by rw [beq_eq_false_iff_ne]; unfold restP at hr; omega
              have e2 : ((c : Int) == 46) = false := by rw [beq_eq_false_iff_ne]; unfold restP at hr; omega
              have e3 : ((c : Int) == 45) = false := by rw [beq_eq_false_iff_ne]; unfold restP at hr; omega
              have hcls : c < 48 ∨ (58 ≤ c ∧ c ≤ 64) ∨ (91 ≤ c ∧ c ≤ 96) ∨ (123 ≤ c ∧ c ≤ 127) := by unfold restP letterP at hr; omega
              clear hr hl
              rcases hcls with h | ⟨h, h'⟩ | ⟨h, h'⟩ | ⟨h, h'⟩
              all_goals
                go_wp2
                all_goals
                  first
                    | (exfalso; omega)
                    | (go_ret
                       exact ⟨ret_bool HF.out.symm, HB3.out⟩)
          · have h0' : ¬ (0 : Int) < (k : Int) := by omega
            have HF := Lib.hid (name_bad (s := s) hlt (by rw [← HC.out]; rintro (h | h); exact hl h; exact h0 h.1))
            have hcls : c < 65 ∨ (91 ≤ c ∧ c ≤ 96) ∨ (123 ≤ c ∧ c ≤ 127) := by unfold letterP at hl; omega
            clear hl
            rcases hcls with h | ⟨h, h'⟩ | ⟨h, h'⟩
            all_goals
              go_wp2
              all_goals
                first
                  | (exfalso; omega)
                  | (go_ret
                     exact ⟨ret_bool HF.out.symm, HB3.out⟩)
      · have hnx := fun ty => run_next_any (P := Try.prog) w s k ty hlt
        have hd := (decode_high s k hlt (by omega)).1
        have HF := Lib.hid (name_bad (s := s) hlt (by rw [← hget]; unfold restP letterP; omega))
        obtain ⟨r, hr⟩ : ∃ r, r = (Utf8.decode s k).1 := ⟨_, rfl⟩
        rw [← hr] at hnx hd
        have e1 : ((r : Int) == 95) = false := by rw [beq_eq_false_iff_ne]; omega
        have e2 : ((r : Int) == 46) = false := by rw [beq_eq_false_iff_ne]; omega
        have e3 : ((r : Int) == 45) = false := by rw [beq_eq_false_iff_ne]; omega
        clear hr hget
        by_cases h0 : 0 < k
        · have h0' : (0 : Int) < (k : Int) := by omega
          go_wp2
          all_goals
            first
              | (exfalso; omega)
              | (go_ret
                 exact ⟨ret_bool HF.out.symm, HB2.out⟩)
        · have h0' : ¬ (0 : Int) < (k : Int) := by omega
          go_wp2
          all_goals
            first
              | (exfalso; omega)
              | (go_ret
                 exact ⟨ret_bool HF.out.symm, HB2.out⟩)
    · obtain rfl : k = s.size := by omega
      have hnx := fun ty => run_next_end (P := Try.prog) w s s.size ty hlt
      by_cases h1 : 1 ≤ s.size
      · by_cases h2 : s.size ≤ 16
        · have HF := Lib.hid (name_end_yes HU.out h1 h2)
          have h1' : (1 : Int) ≤ (s.size : Int) := by omega
          have h2' : (s.size : Int) ≤ 16 := by omega
          go_wp2
          all_goals
            first
              | (exfalso; omega)
              | (go_ret
                 exact ⟨ret_bool HF.out.symm, HB.out⟩)
        · have HF := Lib.hid (name_end_no HU.out (by omega))
          have h1' : (1 : Int) ≤ (s.size : Int) := by omega
          have h2' : ¬ (s.size : Int) ≤ 16 := by omega
          have h2'' : decide ((s.size : Int) ≤ 16) = false := by simp; omega
          go_wp2
          all_goals
            first
              | (exfalso; omega)
              | (go_ret
                 exact ⟨ret_bool HF.out.symm, HB.out⟩)
      · have HF := Lib.hid (name_end_no HU.out (by omega))
        have h1' : ¬ (1 : Int) ≤ (s.size : Int) := by omega
        go_wp2
        all_goals
          first
            | (exfalso; omega)
            | (go_ret
               exact ⟨ret_bool HF.out.symm, HB.out⟩)
end Go.Proofs.Ythnhholpkomdhaa
