/-
  What is proved here: the law SlotsDue returns true for every list of slots and every time, and leaves what it was given as it was. Conditions: none.
-/
import Derived.Test.YtaccbkmlkmdmpaaSlotWake
import Derived.Test.YtaccbkmlkmdmpaaSlotKit
import Derived.Test.YtaccbkmlkmdmpaaSlotOpen
namespace Go.Proofs.Ytaccbkmlkmdmpaa
namespace SlotsDue
open Go.ChangeShapes Go.WideShapes Go.ChangeAt Go.RowKit Go.Deep

set_option maxHeartbeats 1000000 in
theorem walk (A : Option Addr) (cap : Nat) (L : List Slot) (now : Int) (w : World) (hA : SlotsAt w A L) (hcap : L.length ≤ cap) (hsz : cap * 24 ≤ 140737488351232) :
    Calls Try.prog 3 #[.slice A L.length cap, .int .i64 now] w fun e w' => e = .returned (.bool true) ∧ Below w.heap.size w w' := by
  have HA := Lib.hid hA
  clear hA
  go_enter Try.func3, Try.ntmps3
  go_wp2_with fail
  refine (lent_any A cap L _ HA.out (by omega)).mono ?_
  rintro e w1 ⟨g, rfl, hg, hblk, hb1⟩
  have HB := Lib.hid hblk
  have hgl := hblk.lt
  clear hblk
  go_wp2_with fail
  refine (due_any _ _ L now w1 (HB.out.at_ (by omega) (fun i hi => by simp [lentF, show i < L.length + 5 by omega, hi])) (by omega)).mono ?_
  rintro e w2 ⟨rfl, hb2⟩
  have hw2 := hb2.size
  go_wp2_with fail
  refine (rdue_any A cap L now w2 ((SlotsAt.below HA.out hb1).below hb2) (by omega)).mono ?_
  rintro e w3 ⟨rfl, hb3⟩
  have hw3 := hb3.size
  go_wp2_with fail
  refine (wake_any _ _ L w3 ((((HB.out.below hb2 hgl).below hb3 (by omega)).at_ (by omega) (fun i hi => by simp [lentF, show i < L.length + 5 by omega, hi]))) (by omega) (by omega)).mono ?_
  rintro e w4 ⟨rfl, hb4⟩
  have hw4 := hb4.size
  go_wp2_with fail
  refine (rwake_any A cap L w4 ((((SlotsAt.below HA.out hb1).below hb2).below hb3).below hb4) (by omega)).mono ?_
  rintro e w5 ⟨rfl, hb5⟩
  have hw5 := hb5.size
  go_wp2_with fail
  refine (kept_any g _ A cap L w5 ((((HB.out.below hb2 hgl).below hb3 (by omega)).below hb4 (by omega)).below hb5 (by omega)) (((((SlotsAt.below HA.out hb1).below hb2).below hb3).below hb4).below hb5) (by omega) rfl).mono ?_
  rintro e w6 ⟨rfl, hb6⟩
  have hw6 := hb6.size
  have hw1 := hb1.size
  go_wp2_with fail
  go_ret
  exact ⟨rfl, (((((hb1.trans (hb2.mono hw1)).trans (hb3.mono (by omega))).trans (hb4.mono (by omega))).trans (hb5.mono (by omega))).trans (hb6.mono (by omega)))⟩

theorem own : ownKnob Try.prog.godebug = none := by kernel_rfl

set_option maxRecDepth 100000 in
theorem lifted (os : Os) (started : os.Started) (H : Type) (enc : TypeId × Value → H) :
    ReturnsInHanded {} Try.checked os 3 .any (Rows.slotsDueSpec.pre6 enc Try.prog Try.f3 Rows.slotsDueRow.domain false) (Rows.slotsDueSpec.post enc Try.prog Try.f3 false true false false) := by
  refine law_lifted (C := Try.checked) (tb := 4) own started (by kernel_rfl) Try.func3
    (ChangeSpec.witness6 (enc := enc) (C := Try.checked) false ⟨#[], #[.slice none 0 0, .int .i64 0], []⟩ 8 (by kernel_rfl) (by kernel_rfl) (by kernel_rfl) (by kernel_rfl))
    rfl (by kernel_rfl) (by kernel_rfl) (by kernel_rfl) Try.underlying4 (fun ds h => ?_) ?_
  · rw [show Try.f3.params = #[22, 3] from Try.params3] at h
    match ds, h with
    | [_, _], _ => rfl
  · intro W base args ds before hval hA hlt hsz
    rw [show Try.f3.params = #[22, 3] from Try.params3] at hA hval hsz
    obtain ⟨v0, vs0, d0, ds0, p0, q0, hargs, rfl, rfl, h0, r0⟩ := trodAll_cons hA
    obtain ⟨v1, vs1, d1, ds1, p1, q1, rfl, rfl, rfl, h1, r1⟩ := trodAll_cons r0
    obtain ⟨rfl, rfl, rfl⟩ := trodAll_nil r1
    obtain rfl : args = #[v0, v1] := by cases args; simp_all
    obtain ⟨A, cap, L, rfl, hcap, hc24, hS, _⟩ := open_slots (hval 0 _ v0 rfl rfl) h0 hsz (j := 0) rfl rfl
    obtain ⟨now, rfl, _, _, _⟩ := open_int Try.underlying3 (hval 1 3 v1 rfl rfl) h1
    exact walk A cap L now W hS hcap hc24

theorem proved : Rows.SlotsDueSaid :=
  OpenClaim.holds_of_wide 3 Try.f3 rfl rfl rfl rfl rfl rfl rfl ⟨rfl, rfl, rfl, rfl, rfl⟩ rfl rfl rfl rfl rfl (by kernel_rfl) Try.func3 (by kernel_rfl)
    (of_decide_eq_true (by kernel_rfl)) (by unfold Func.isWrapper; rw [if_neg (of_decide_eq_false (by kernel_rfl))]; exact ⟨rfl, rfl⟩)
    (fun os started H enc _ => lifted os started H enc)
#print axioms proved
end SlotsDue
end Go.Proofs.Ytaccbkmlkmdmpaa
