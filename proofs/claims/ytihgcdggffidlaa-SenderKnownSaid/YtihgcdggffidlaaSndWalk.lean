/-
  What is proved here: what a sender's functions answer (chapter 22). Conditions: none beyond each theorem's own.
-/
import Derived.Test.YtihgcdggffidlaaSndLaws
import Derived.Test.YtihgcdggffidlaaKitInts
import Derived.Deep.DeepCutAuto
import Derived.IntWalk
namespace Go.Proofs.Ytihgcdggffidlaa
open Go.RowKit Go.Deep

def I64 (n : Int) : Prop := -9223372036854775808 ≤ n ∧ n ≤ 9223372036854775807
theorem I64.of {n : Int} (h : (Lit.int .i64 n).wf = true) : I64 n := by
  simp [Lit.wf, IntKind.min, IntKind.max, IntKind.signed, IntKind.bits] at h
  exact ⟨by omega, by omega⟩

/-- is a number from one to another? -/
def inB (n lo hi : Int) : Bool := decide (lo ≤ n ∧ n ≤ hi)
theorem inB_yes {n lo hi : Int} (h : lo ≤ n ∧ n ≤ hi) : inB n lo hi = true := decide_eq_true h
theorem inB_no {n lo hi : Int} (h : ¬ (lo ≤ n ∧ n ≤ hi)) : inB n lo hi = false := decide_eq_false h

theorem within_any (n lo hi : Int) (w : World) :
    Calls Try.prog 19 #[.int .i64 n, .int .i64 lo, .int .i64 hi] w fun e w' => e = .returned (.bool (inB n lo hi)) ∧ w = w' := by
  by_cases h1 : lo ≤ n
  all_goals
    by_cases h2 : n ≤ hi
    all_goals
      go_enter Try.func19, Try.ntmps19
      go_wp2
      all_goals
        go_ret
        exact ⟨ret_bool (by unfold inB; first | (symm; rw [decide_eq_true_iff]; omega) | (symm; rw [decide_eq_false_iff_not]; omega)), rfl⟩

/-- a sender's cells. -/
def Snd.cells (s : Snd) : Array Value := #[.int .i64 s.win, .int .i64 s.res, .int .i64 s.ep, .int .i64 s.base, .int .i64 s.sent, .int .i64 s.top, .int .i64 s.since]
def SB (T : TypeId) (w : World) (g : Nat) (s : Snd) : Prop := Blk w g T s.cells
theorem SB.all {T : TypeId} {w : World} {g : Nat} {s : Snd} (h : SB T w g s) :
    (w.cell? ⟨g, 0, none⟩ = some (.int .i64 s.win) ∧ w.cell? ⟨g, 1, none⟩ = some (.int .i64 s.res) ∧ w.cell? ⟨g, 2, none⟩ = some (.int .i64 s.ep) ∧ w.cell? ⟨g, 3, none⟩ = some (.int .i64 s.base) ∧
      w.cell? ⟨g, 4, none⟩ = some (.int .i64 s.sent) ∧ w.cell? ⟨g, 5, none⟩ = some (.int .i64 s.top) ∧ w.cell? ⟨g, 6, none⟩ = some (.int .i64 s.since)) ∧
    (w.frozen? ⟨g, 3, none⟩ = false ∧ w.frozen? ⟨g, 4, none⟩ = false ∧ w.frozen? ⟨g, 5, none⟩ = false ∧ w.frozen? ⟨g, 6, none⟩ = false) :=
  ⟨⟨Blk.cell h 0, Blk.cell h 1, Blk.cell h 2, Blk.cell h 3, Blk.cell h 4, Blk.cell h 5, Blk.cell h 6⟩, ⟨Blk.frozen h 3, Blk.frozen h 4, Blk.frozen h 5, Blk.frozen h 6⟩⟩

/-- what comes back of New. -/
def NewBack (T : TypeId) (a b c d : Int) (w : World) (e : Ending) (w' : World) : Prop :=
  (sndOk a b c d ∧ e = .returned (.tuple #[.pointer (some ⟨w.heap.size, 0, none⟩), .int .i64 0]) ∧ w' = w.alloc (.cells (sndNew a b c d).cells T)) ∨
  (¬ sndOk a b c d ∧ e = .returned (.tuple #[.pointer none, .int .i64 3]) ∧ w' = w)

theorem new_yes (a b c d : Int) (w : World) (h : sndOk a b c d) :
    Calls Try.prog 8 #[.int .i64 a, .int .i64 b, .int .i64 c, .int .i64 d] w fun e w' => e = .returned (.tuple #[.pointer (some ⟨w.heap.size, 0, none⟩), .int .i64 0]) ∧ w' = w.alloc (.cells #[.int .i64 a, .int .i64 b, .int .i64 c, .int .i64 d, .int .i64 d, .int .i64 d, .int .i64 0] 47) := by
  have h1 : inB a 1 16 = true := inB_yes (by unfold sndOk at h; omega)
  have h2 : inB b 1 1048576 = true := inB_yes (by unfold sndOk at h; omega)
  have h3 : inB c 1 1099511627776 = true := inB_yes (by unfold sndOk at h; omega)
  have h4 : inB d 0 1099511627776 = true := inB_yes (by unfold sndOk at h; omega)
  clear h
  go_enter Try.func8, Try.ntmps8
  go_wp2_with (go_at_call 19; refine (within_any _ _ _ _).mono ?_; rintro e w' ⟨rfl, rfl⟩)
  go_ret2
  exact ⟨rfl, rfl⟩
theorem new_no (a b c d : Int) (w : World) (h : ¬ sndOk a b c d) :
    Calls Try.prog 8 #[.int .i64 a, .int .i64 b, .int .i64 c, .int .i64 d] w fun e w' => e = .returned (.tuple #[.pointer none, .int .i64 3]) ∧ w' = w := by
  have hc : inB a 1 16 = false ∨ inB a 1 16 = true ∧ (inB b 1 1048576 = false ∨ inB b 1 1048576 = true ∧ (inB c 1 1099511627776 = false ∨ inB c 1 1099511627776 = true ∧ inB d 0 1099511627776 = false)) := by
    unfold sndOk at h
    simp only [inB, decide_eq_true_eq, decide_eq_false_iff_not]
    omega
  clear h
  rcases hc with h1 | ⟨h1, h2 | ⟨h2, h3 | ⟨h3, h4⟩⟩⟩
  all_goals
    go_enter Try.func8, Try.ntmps8
    go_wp2_with (go_at_call 19; refine (within_any _ _ _ _).mono ?_; rintro e w' ⟨rfl, rfl⟩)
    go_ret2
    exact ⟨rfl, rfl⟩
theorem rnew_yes (a b c d : Int) (w : World) (h : sndOk a b c d) :
    Calls Try.prog 9 #[.int .i64 a, .int .i64 b, .int .i64 c, .int .i64 d] w fun e w' => e = .returned (.tuple #[.pointer (some ⟨w.heap.size, 0, none⟩), .int .i64 0]) ∧ w' = w.alloc (.cells #[.int .i64 a, .int .i64 b, .int .i64 c, .int .i64 d, .int .i64 d, .int .i64 d, .int .i64 0] 40) := by
  obtain ⟨h1, h2, h3, h4, h5, h6, h7, h8⟩ := id h
  clear h
  go_enter Try.func9, Try.ntmps9
  go_wp2
  go_ret2
  exact ⟨rfl, rfl⟩
theorem rnew_no (a b c d : Int) (w : World) (h : ¬ sndOk a b c d) :
    Calls Try.prog 9 #[.int .i64 a, .int .i64 b, .int .i64 c, .int .i64 d] w fun e w' => e = .returned (.tuple #[.pointer none, .int .i64 3]) ∧ w' = w := by
  go_enter Try.func9, Try.ntmps9
  go_wp2
  all_goals first | (exfalso; apply h; unfold sndOk; omega) | (go_ret2; exact ⟨rfl, rfl⟩)

theorem base_any (g : Nat) (s : Snd) (w : World) (h : SB 47 w g s) :
    Calls Try.prog 16 #[.pointer (some ⟨g, 0, none⟩)] w fun e w' => e = .returned (.int .i64 s.base) ∧ w' = w := by
  obtain ⟨⟨_, _, _, c3, _, _, _⟩, _⟩ := h.all
  clear h
  go_enter Try.func16, Try.ntmps16
  go_wp2
  go_ret
  exact ⟨rfl, rfl⟩
theorem epoch_any (g : Nat) (s : Snd) (w : World) (h : SB 47 w g s) :
    Calls Try.prog 17 #[.pointer (some ⟨g, 0, none⟩)] w fun e w' => e = .returned (.int .i64 s.ep) ∧ w' = w := by
  obtain ⟨⟨_, _, c2, _, _, _, _⟩, _⟩ := h.all
  clear h
  go_enter Try.func17, Try.ntmps17
  go_wp2
  go_ret
  exact ⟨rfl, rfl⟩

/-- what comes back of Ack. -/
def AckBack (T : TypeId) (g : Nat) (s : Snd) (now ep next : Int) (w : World) (e : Ending) (w' : World) : Prop :=
  e = .returned (.bool (decide (ackOk s now ep next))) ∧ SB T w' g (s.ack now ep next) ∧ w.grownBy w' (some g)

theorem ack_any (g : Nat) (s : Snd) (now ep next : Int) (w : World) (h : SB 47 w g s) :
    Calls Try.prog 14 #[.pointer (some ⟨g, 0, none⟩), .int .i64 now, .int .i64 ep, .int .i64 next] w (AckBack 47 g s now ep next w) := by
  obtain ⟨⟨_, _, c2, c3, c4, c5, c6⟩, ⟨f3, f4, f5, f6⟩⟩ := h.all
  have hlt := Blk.lt h
  have HS := Lib.hid h
  clear h
  by_cases ha : ackOk s now ep next
  · obtain ⟨a1, a2, a3, a4, a5⟩ := id ha
    have h1 : inB now 0 1099511627776 = true := inB_yes ⟨a1, a2⟩
    have h2 : (ep != s.ep) = false := by rw [bne_eq_false_iff_eq]; exact a3
    have hst : s.ack now ep next = ⟨s.win, s.res, s.ep, next, max s.sent next, s.top, now⟩ := by unfold Snd.ack; rw [if_pos ha]
    have HST := Lib.hid hst
    have HA := Lib.hid (decide_eq_true ha)
    have a4' : decide (next ≤ s.base) = false := decide_eq_false (by omega)
    have a5' : decide (s.top < next) = false := decide_eq_false (by omega)
    clear ha hst a3 a1 a2 a4 a5
    by_cases hm : s.sent < next
    · have HM := Lib.hid (show max s.sent next = next by omega)
      go_enter Try.func14, Try.ntmps14
      go_wp2_with (go_at_call 19; refine (within_any _ _ _ _).mono ?_; rintro e w' ⟨rfl, rfl⟩)
      go_ret
      refine ⟨ret_bool HA.out.symm, ?_, only_set (only_set (only_set (only_refl _ _) _ _) _ _) _ _⟩
      rw [HST.out, HM.out]
      exact Blk.set_ (Blk.set_ (Blk.set_ HS.out 3 _) 4 _) 6 _
    · have HM := Lib.hid (show max s.sent next = s.sent by omega)
      go_enter Try.func14, Try.ntmps14
      go_wp2_with (go_at_call 19; refine (within_any _ _ _ _).mono ?_; rintro e w' ⟨rfl, rfl⟩)
      go_ret
      refine ⟨ret_bool HA.out.symm, ?_, only_set (only_set (only_set (only_refl _ _) _ _) _ _) _ _⟩
      rw [HST.out, HM.out]
      exact Blk.set_ (Blk.set_ (Blk.set_ HS.out 3 _) 4 _) 6 _
  · have hst : s.ack now ep next = s := by unfold Snd.ack; rw [if_neg ha]
    have HST := Lib.hid hst
    have HA := Lib.hid (decide_eq_false ha)
    have hc : inB now 0 1099511627776 = false ∨ inB now 0 1099511627776 = true ∧ ((ep != s.ep) = true ∨ (ep != s.ep) = false ∧ (next ≤ s.base ∨ ¬ next ≤ s.base ∧ s.top < next)) := by
      unfold ackOk at ha
      simp only [inB, decide_eq_true_eq, decide_eq_false_iff_not, bne_iff_ne, bne_eq_false_iff_eq]
      omega
    clear ha hst
    rcases hc with h1 | ⟨h1, h2 | ⟨h2, h3 | ⟨h3, h4⟩⟩⟩
    all_goals
      go_enter Try.func14, Try.ntmps14
      go_wp2_with (go_at_call 19; refine (within_any _ _ _ _).mono ?_; rintro e w' ⟨rfl, rfl⟩)
      go_ret
      exact ⟨ret_bool HA.out.symm, by rw [HST.out]; exact HS.out, only_refl _ _⟩
theorem rack_any (g : Nat) (s : Snd) (now ep next : Int) (w : World) (h : SB 40 w g s) :
    Calls Try.prog 15 #[.pointer (some ⟨g, 0, none⟩), .int .i64 now, .int .i64 ep, .int .i64 next] w (AckBack 40 g s now ep next w) := by
  obtain ⟨⟨_, _, c2, c3, c4, c5, c6⟩, ⟨f3, f4, f5, f6⟩⟩ := h.all
  have hlt := Blk.lt h
  have HS := Lib.hid h
  clear h
  by_cases ha : ackOk s now ep next
  · obtain ⟨a1, a2, a3, a4, a5⟩ := id ha
    have h2 : (ep != s.ep) = false := by rw [bne_eq_false_iff_eq]; exact a3
    have hst : s.ack now ep next = ⟨s.win, s.res, s.ep, next, max s.sent next, s.top, now⟩ := by unfold Snd.ack; rw [if_pos ha]
    have HST := Lib.hid hst
    have HA := Lib.hid (decide_eq_true ha)
    have a1' : decide (now < 0) = false := decide_eq_false (by omega)
    have a2' : decide (1099511627776 < now) = false := decide_eq_false (by omega)
    have a4' : decide (next ≤ s.base) = false := decide_eq_false (by omega)
    have a5' : decide (s.top < next) = false := decide_eq_false (by omega)
    clear ha hst a3 a1 a2 a4 a5
    by_cases hm : s.sent < next
    · have HM := Lib.hid (show max s.sent next = next by omega)
      go_enter Try.func15, Try.ntmps15
      go_wp2
      go_ret
      refine ⟨ret_bool HA.out.symm, ?_, only_set (only_set (only_set (only_refl _ _) _ _) _ _) _ _⟩
      rw [HST.out, HM.out]
      exact Blk.set_ (Blk.set_ (Blk.set_ HS.out 3 _) 4 _) 6 _
    · have HM := Lib.hid (show max s.sent next = s.sent by omega)
      go_enter Try.func15, Try.ntmps15
      go_wp2
      go_ret
      refine ⟨ret_bool HA.out.symm, ?_, only_set (only_set (only_refl _ _) _ _) _ _⟩
      rw [HST.out, HM.out]
      exact Blk.set_ (Blk.set_ HS.out 3 _) 6 _
  · have hst : s.ack now ep next = s := by unfold Snd.ack; rw [if_neg ha]
    have HST := Lib.hid hst
    have HA := Lib.hid (decide_eq_false ha)
    have hc : now < 0 ∨ ¬ now < 0 ∧ (1099511627776 < now ∨ ¬ 1099511627776 < now ∧ ((ep != s.ep) = true ∨ (ep != s.ep) = false ∧ (next ≤ s.base ∨ ¬ next ≤ s.base ∧ s.top < next))) := by
      unfold ackOk at ha
      simp only [bne_iff_ne, bne_eq_false_iff_eq]
      omega
    clear ha hst
    rcases hc with h0 | ⟨h0, h1 | ⟨h1, h2 | ⟨h2, h3 | ⟨h3, h4⟩⟩⟩⟩
    all_goals
      go_enter Try.func15, Try.ntmps15
      go_wp2
      go_ret
      exact ⟨ret_bool HA.out.symm, by rw [HST.out]; exact HS.out, only_refl _ _⟩
end Go.Proofs.Ytihgcdggffidlaa
