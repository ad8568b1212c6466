/-
  What is proved here: the law TagsChecks returns true. Conditions: none beyond the form's.
-/
import Derived.Test.YthnhholpkomdhaaTagOpen
namespace Go.Proofs.Ythnhholpkomdhaa
namespace TagsChecks
open Go.ChangeShapes Go.WideShapes Go.ChangeAt Go.RowKit Go.Deep
attribute [local go_sem ↓ high] loadTag_eq

set_option maxRecDepth 100000 in
set_option maxHeartbeats 2000000 in
theorem walk (t : Tag) (w : World) (hg : t.g.size ≤ 9223372036854775807) :
    Calls Try.prog 3 #[.agg t.cells] w fun e w' => e = .returned (.bool true) ∧ Below w.heap.size w w' := by
  have HG := Lib.hid hg
  clear hg
  have HB := Lib.hid (show TB w t (w.alloc (.cells t.cells 29)) from ⟨Blk.new _ _ _, by (repeat (first | (with_reducible assumption) | (with_reducible exact Below.refl _ _) | ((with_reducible refine Below.setCell ?_ ?_ _); rotate_left; · (first | omega | (simp; done) | (simp; omega) | (simp at *; omega))) | ((with_reducible refine Below.alloc ?_ ?_ _); rotate_left; · (first | omega | (simp; done) | (simp; omega) | (simp at *; omega))) | (with_reducible refine Below.drew ?_) | (with_reducible refine below_drewN ?_ _) | ((refine Below.trans ?_ (Below.mono (by with_reducible assumption) ?_)); rotate_left; · (first | omega | (simp; done) | (simp; omega) | (simp at *; omega)))))⟩)
  have HS := Lib.hid (show ∀ w' : World, TB w t w' → w'.cell? ⟨w.heap.size, 0, none⟩ = some (.string t.g) ∧ (loadTag ⟨w.heap.size, 0, none⟩).run Try.prog w' = .ok (.agg t.cells) w' ∧ w.heap.size < w'.heap.size ∧ TB w t w' from fun w' h => ⟨h.1.cell 0, h.load, h.1.lt, h⟩)
  obtain ⟨c0, hload, hl, _⟩ := HS.out _ HB.out
  go_enter Try.func3, Try.ntmps3
  go_upto_region 1 with fail
  go_region_held3 (fun w' => w'.cell? ⟨w.heap.size, 0, none⟩ = some (.string t.g) ∧ (loadTag ⟨w.heap.size, 0, none⟩).run Try.prog w' = .ok (.agg t.cells) w' ∧ w.heap.size < w'.heap.size ∧ TB w t w')
    (first
      | exact HS.out _ (HB.out.drewN 1)
      | exact HS.out _ (TB.on (HB.out.drewN 1) hb)
      | exact HS.out _ (TB.on (by assumption) hb)
      | (go_split_ands; exact HS.out _ (TB.on (by assumption) hb)))
    (first
      | (go_at_call 9; (with_reducible refine (name_any t.g _ HG.out).mono ?_); rintro e w' ⟨rfl, hb⟩)
      | (go_at_call 10; (with_reducible refine (rname_any t.g _ HG.out).mono ?_); rintro e w' ⟨rfl, rfl⟩)
      | (go_at_call 11; (with_reducible refine (width_any t _).mono ?_); rintro e w' ⟨rfl, hb⟩)
      | (go_at_call 12; (with_reducible refine (rwidth_any t _).mono ?_); rintro e w' ⟨rfl, hb⟩)
      | (go_at_call 13; (with_reducible refine (tag_check t _ HG.out).mono ?_); rintro e w' ⟨rfl, hb⟩)
      | (go_at_call 14; (with_reducible refine (tag_rcheck t _ HG.out).mono ?_); rintro e w' ⟨rfl, hb⟩))
  go_wp2_with fail
  go_ret
  (try go_split_ands)
  exact ⟨rfl, (show TB w t _ by assumption).2⟩

theorem own : ownKnob Try.prog.godebug = none := by kernel_rfl

set_option maxRecDepth 100000 in
theorem lifted (os : Os) (started : os.Started) (H : Type) (enc : TypeId × Value → H) :
    ReturnsInHanded {} Try.checked os 3 .any (Rows.tagsChecksSpec.pre6 enc Try.prog Try.f3 Rows.tagsChecksRow.domain false) (Rows.tagsChecksSpec.post enc Try.prog Try.f3 false true false false) := by
  refine law_lifted (C := Try.checked) (tb := 4) own started (by kernel_rfl) Try.func3
    (ChangeSpec.witness6 (enc := enc) (C := Try.checked) false ⟨#[], #[.agg #[.string ByteArray.empty, .int .i64 0, .int .i64 0, .int .i64 0, .int .i64 0, .bool false, .bool false, .bool false, .int .i64 0, .int .i64 0, .int .i64 0, .int .i64 0, .int .i64 0, .bool false, .bool false, .bool false, .int .i64 0, .int .i64 0, .int .i64 0]], []⟩ 8 (by kernel_rfl) (by kernel_rfl) (by kernel_rfl) (by kernel_rfl))
    rfl (by kernel_rfl) (by kernel_rfl) (by kernel_rfl) Try.underlying4 (fun ds h => ?_) ?_
  · rw [show Try.f3.params = #[29] from Try.params3] at h
    match ds, h with
    | [_], _ => rfl
  · intro W base args ds before hval hA hlt hsz
    rw [show Try.f3.params = #[29] from Try.params3] at hA hval hsz
    obtain ⟨v0, vs0, d0, ds0, p0, q0, hargs, rfl, rfl, h0, r0⟩ := trodAll_cons hA
    obtain ⟨rfl, rfl, rfl⟩ := trodAll_nil r0
    obtain rfl : args = #[v0] := by cases args; simp_all
    obtain ⟨t, rfl, hfit⟩ := open_tag (hval 0 _ v0 rfl rfl) h0
    exact walk t W hfit.g

theorem proved : Rows.TagsChecksSaid :=
  OpenClaim.holds_of_wide 3 Try.f3 rfl rfl rfl rfl rfl rfl rfl ⟨rfl, rfl, rfl, rfl, rfl⟩ rfl rfl rfl rfl rfl (by kernel_rfl) Try.func3 (by kernel_rfl)
    (of_decide_eq_true (by kernel_rfl)) (by unfold Func.isWrapper; rw [if_neg (of_decide_eq_false (by kernel_rfl))]; exact ⟨rfl, rfl⟩)
    (fun os started H enc _ => lifted os started H enc)
#print axioms proved
end TagsChecks
end Go.Proofs.Ythnhholpkomdhaa
