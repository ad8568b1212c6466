/-
  What is proved here: the law TagsTables returns true. Conditions: none beyond the form's.
-/
import Derived.Test.YthnhholpkomdhaaTagList
import Derived.Test.YthnhholpkomdhaaTagRAll
namespace Go.Proofs.Ythnhholpkomdhaa
namespace TagsTables
open Go.ChangeShapes Go.WideShapes Go.ChangeAt Go.RowKit Go.Deep

set_option maxHeartbeats 1000000 in
theorem walk (A : Option Addr) (ca : Nat) (L : List Tag) (g : ByteArray) (w : World) (hA : TagsAt w A L) (hN : NamesFit L) (hlen : L.length * 128 ≤ 140737488351232) :
    Calls Try.prog 6 #[.slice A L.length ca, .string g] w fun e w' => e = .returned (.bool true) ∧ Below w.heap.size w w' := by
  have HA := Lib.hid hA
  have HN := Lib.hid hN
  clear hA hN
  go_enter Try.func6, Try.ntmps6
  go_wp2_with fail
  refine (lent_tags A ca L _ HA.out hlen).mono ?_
  rintro e w1 ⟨b, M, rfl, hge, hrow, hm, hb1⟩
  have HR := Lib.hid hrow
  have HM := Lib.hid hm
  clear hrow hm
  have HB := Lib.hid (marked_begin HR.out HM.out)
  go_wp2_with fail
  refine (all_any _ _ L _ HB.out HN.out (by omega)).mono ?_
  rintro e w2 ⟨rfl, hb2⟩
  have hbw2 : Below w.heap.size w w2 := hb1.trans (hb2.mono hb1.size)
  obtain ⟨x, hx⟩ : ∃ x, x = (allOf L).1 := ⟨_, rfl⟩
  rw [← hx]
  have HX := Lib.hid hx
  clear hx
  obtain ⟨y, hy⟩ : ∃ y, y = (allOf L).2 := ⟨_, rfl⟩
  rw [← hy]
  have HY := Lib.hid hy
  clear hy
  go_wp2_with fail
  refine (rall_any _ _ L _ (HA.out.below hbw2 (Nat.le_refl _)) HN.out (by omega)).mono ?_
  rintro e w3 ⟨rfl, hb3⟩
  rw [← HX.out, ← HY.out]
  have hbw3 : Below w.heap.size w w3 := hbw2.trans (hb3.mono hbw2.size)
  have hb13 : Below w1.heap.size w1 w3 := hb2.trans (hb3.mono hb2.size)
  have HA3 := Lib.hid (HA.out.below hbw3 (Nat.le_refl _))
  have HR3 := Lib.hid (HR.out.below hb13 HR.out.1)
  have HB3 := Lib.hid (marked_begin HR3.out HM.out)
  clear hb2 hb3 hbw2 hb13
  obtain ⟨q, hq⟩ : ∃ q, q = findOf L g := ⟨_, rfl⟩
  have HQ := Lib.hid hq
  clear hq
  go_wp2_with (first
    | (go_at_call 19; (with_reducible refine (find_8 _ _ L g _ HB3.out (by omega)).mono ?_); rintro e w4 ⟨rfl, rfl⟩; rw [← HQ.out])
    | (go_at_call 20; (with_reducible refine (find_5 _ _ L g _ HA3.out (by omega)).mono ?_); rintro e w4 ⟨rfl, rfl⟩; rw [← HQ.out])
    | (go_at_call 21; (with_reducible refine (kept_tags b _ _ L M _ HR3.out HM.out HA3.out hlen).mono ?_); rintro e w4 ⟨rfl, hb4⟩))
  go_ret
  exact ⟨rfl, hbw3.trans (hb4.mono hbw3.size)⟩

theorem own : ownKnob Try.prog.godebug = none := by kernel_rfl

set_option maxRecDepth 100000 in
theorem lifted (os : Os) (started : os.Started) (H : Type) (enc : TypeId × Value → H) :
    ReturnsInHanded {} Try.checked os 6 .any (Rows.tagsTablesSpec.pre6 enc Try.prog Try.f6 Rows.tagsTablesRow.domain false) (Rows.tagsTablesSpec.post enc Try.prog Try.f6 false true false false) := by
  refine law_lifted (C := Try.checked) (tb := 4) own started (by kernel_rfl) Try.func6
    (ChangeSpec.witness6 (enc := enc) (C := Try.checked) false ⟨#[], #[.slice none 0 0, .string ByteArray.empty], []⟩ 8 (by kernel_rfl) (by kernel_rfl) (by kernel_rfl) (by kernel_rfl))
    rfl (by kernel_rfl) (by kernel_rfl) (by kernel_rfl) Try.underlying4 (fun ds h => ?_) ?_
  · rw [show Try.f6.params = #[35, 9] from Try.params6] at h
    match ds, h with
    | [_, _], _ => rfl
  · intro W base args ds before hval hA hlt hsz
    rw [show Try.f6.params = #[35, 9] from Try.params6] at hA hval hsz
    obtain ⟨v0, vs0, d0, ds0, p0, q0, hargs, rfl, rfl, h0, r0⟩ := trodAll_cons hA
    obtain ⟨v1, vs1, d1, ds1, p1, q1, rfl, rfl, rfl, h1, r1⟩ := trodAll_cons r0
    obtain ⟨rfl, rfl, rfl⟩ := trodAll_nil r1
    obtain rfl : args = #[v0, v1] := by cases args; simp_all
    obtain ⟨A, ca, L, rfl, hlc, hcap, hT, hF⟩ := open_tags (hval 0 _ v0 rfl rfl) h0 hsz (j := 0) rfl rfl
    obtain ⟨g, rfl⟩ := okWide_string Try.underlying9 (hval 1 _ v1 rfl rfl)
    exact walk A ca L g W hT (fun i hi => (hF i hi).g) (by omega)

theorem proved : Rows.TagsTablesSaid :=
  OpenClaim.holds_of_wide 6 Try.f6 rfl rfl rfl rfl rfl rfl rfl ⟨rfl, rfl, rfl, rfl, rfl⟩ rfl rfl rfl rfl rfl (by kernel_rfl) Try.func6 (by kernel_rfl)
    (of_decide_eq_true (by kernel_rfl)) (by unfold Func.isWrapper; rw [if_neg (of_decide_eq_false (by kernel_rfl))]; exact ⟨rfl, rfl⟩)
    (fun os started H enc _ => lifted os started H enc)
#print axioms proved
end TagsTables
end Go.Proofs.Ythnhholpkomdhaa
