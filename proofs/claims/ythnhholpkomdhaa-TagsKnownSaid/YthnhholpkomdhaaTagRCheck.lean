/-
  What is proved here: what is wrong with a tag, as the reference tells it (chapter 9). Conditions: a name's length.
-/
import Derived.Test.YthnhholpkomdhaaTagCheck
import Derived.RegionTactic
import Derived.BigRegion
import Derived.Deep.QuietTactic
import Derived.Deep.RegionHeld3
namespace Go.Proofs.Ythnhholpkomdhaa
open Go.RowKit Go.Deep
attribute [local go_sem high] ne_plain
attribute [local go_sem ↓ high] loadTag_eq
set_option maxRecDepth 100000 in
set_option maxHeartbeats 2000000 in
theorem tag_rcheck (t : Tag) (w : World) (hg : t.g.size ≤ 9223372036854775807) :
    Calls Try.prog 14 #[.agg t.cells] w fun e w' => e = .returned (.int .i64 t.err) ∧ Below w.heap.size w w' := by
  obtain ⟨g, unit, kind, addr, every, ⟨wide, signed, swap, mul, div, add⟩, ⟨dead, quiet⟩, ⟨ul, uh, la, lo, hi, hy⟩⟩ := t
  dsimp only at hg
  have HG := Lib.hid hg
  clear hg
  have HCL := Lib.hid (show (Tag.mk g unit kind addr every ⟨wide, signed, swap, mul, div, add⟩ ⟨dead, quiet⟩ ⟨ul, uh, la, lo, hi, hy⟩).cells = #[.string g, .int .i64 unit, .int .i64 kind, .int .i64 addr, .int .i64 every, .bool wide, .bool signed, .bool swap, .int .i64 mul, .int .i64 div, .int .i64 add, .int .i64 dead, .int .i64 quiet, .bool ul, .bool uh, .bool la, .int .i64 lo, .int .i64 hi, .int .i64 hy] from rfl)
  rw [HCL.out]
  have HB := Lib.hid (show TB w (Tag.mk g unit kind addr every ⟨wide, signed, swap, mul, div, add⟩ ⟨dead, quiet⟩ ⟨ul, uh, la, lo, hi, hy⟩) (w.alloc (.cells #[.string g, .int .i64 unit, .int .i64 kind, .int .i64 addr, .int .i64 every, .bool wide, .bool signed, .bool swap, .int .i64 mul, .int .i64 div, .int .i64 add, .int .i64 dead, .int .i64 quiet, .bool ul, .bool uh, .bool la, .int .i64 lo, .int .i64 hi, .int .i64 hy] 29)) from ⟨Blk.new _ _ _, by (repeat (first | (with_reducible assumption) | (with_reducible exact Below.refl _ _) | ((with_reducible refine Below.setCell ?_ ?_ _); rotate_left; · (first | omega | (simp; done) | (simp; omega) | (simp at *; omega))) | ((with_reducible refine Below.alloc ?_ ?_ _); rotate_left; · (first | omega | (simp; done) | (simp; omega) | (simp at *; omega))) | (with_reducible refine Below.drew ?_) | (with_reducible refine below_drewN ?_ _) | ((refine Below.trans ?_ (Below.mono (by with_reducible assumption) ?_)); rotate_left; · (first | omega | (simp; done) | (simp; omega) | (simp at *; omega)))))⟩)
  have HR := Lib.hid (show (Tag.mk g unit kind addr every ⟨wide, signed, swap, mul, div, add⟩ ⟨dead, quiet⟩ ⟨ul, uh, la, lo, hi, hy⟩).err = (Tag.mk g unit kind addr every ⟨wide, signed, swap, mul, div, add⟩ ⟨dead, quiet⟩ ⟨ul, uh, la, lo, hi, hy⟩).errs (nameB g) (decide (unit < 1 ∨ 247 < unit)) (decide (kind < 1 ∨ 4 < kind)) (decide (addr < 0 ∨ 65536 - widthOf wide kind < addr)) (decide (every < 1 ∨ 1048576 < every)) (decide (kind ≤ 2) && !eqs wide signed swap mul div add) from rfl)
  go_enter Try.func14, Try.ntmps14
  go_upto_region 1 with fail
  go_cut [8] (fun s wx => s = .bool (!nameB g) ∧ TB w (Tag.mk g unit kind addr every ⟨wide, signed, swap, mul, div, add⟩ ⟨dead, quiet⟩ ⟨ul, uh, la, lo, hi, hy⟩) wx)
  case first =>
   as_aux_lemma =>
    obtain ⟨c0, c1, c2, c3, c4, c5, c6, c7, c8, c9, c10, c11, c12, c13, c14, c15, c16, c17, c18, hl⟩ := HB.out.all
    dsimp only at c0 c1 c2 c3 c4 c5 c6 c7 c8 c9 c10 c11 c12 c13 c14 c15 c16 c17 c18
    go_wp2_with (first | (go_at_call 10; (with_reducible refine (rname_any g _ HG.out).mono ?_); rintro e w' ⟨rfl, rfl⟩) | fail)
    go_meet
    exact ⟨rfl, HB.out⟩
  obtain ⟨rfl, hB⟩ := hcut
  obtain ⟨w1, rfl⟩ : ∃ wq : World, wq = wc := ⟨_, rfl⟩
  clear HB
  have HB := Lib.hid hB
  clear hB
  obtain ⟨b0, hb0⟩ : ∃ b, b = (nameB g) := ⟨_, rfl⟩
  rw [← hb0]
  have HB0 := Lib.hid hb0
  clear hb0
  cases b0
  · have HE := Lib.hid (show (Tag.mk g unit kind addr every ⟨wide, signed, swap, mul, div, add⟩ ⟨dead, quiet⟩ ⟨ul, uh, la, lo, hi, hy⟩).err = 8 by rw [HR.out, ← HB0.out]; rfl)
    have hbel := HB.out.2
    go_wp2_with fail
    go_ret
    exact ⟨ret_int HE.out.symm, by (repeat (first | (with_reducible assumption) | (with_reducible exact Below.refl _ _) | ((with_reducible refine Below.setCell ?_ ?_ _); rotate_left; · (first | omega | (simp; done) | (simp; omega) | (simp at *; omega))) | ((with_reducible refine Below.alloc ?_ ?_ _); rotate_left; · (first | omega | (simp; done) | (simp; omega) | (simp at *; omega))) | (with_reducible refine Below.drew ?_) | (with_reducible refine below_drewN ?_ _) | ((refine Below.trans ?_ (Below.mono (by with_reducible assumption) ?_)); rotate_left; · (first | omega | (simp; done) | (simp; omega) | (simp at *; omega)))))⟩
  replace HR := Lib.hid (show (Tag.mk g unit kind addr every ⟨wide, signed, swap, mul, div, add⟩ ⟨dead, quiet⟩ ⟨ul, uh, la, lo, hi, hy⟩).err = (Tag.mk g unit kind addr every ⟨wide, signed, swap, mul, div, add⟩ ⟨dead, quiet⟩ ⟨ul, uh, la, lo, hi, hy⟩).errs true (decide (unit < 1 ∨ 247 < unit)) (decide (kind < 1 ∨ 4 < kind)) (decide (addr < 0 ∨ 65536 - widthOf wide kind < addr)) (decide (every < 1 ∨ 1048576 < every)) (decide (kind ≤ 2) && !eqs wide signed swap mul div add) by rw [HR.out, ← HB0.out])
  go_upto_region 3 with fail
  go_cut [16] (fun s wx => s = .bool (decide (unit < 1 ∨ 247 < unit)) ∧ TB w (Tag.mk g unit kind addr every ⟨wide, signed, swap, mul, div, add⟩ ⟨dead, quiet⟩ ⟨ul, uh, la, lo, hi, hy⟩) wx)
  case first =>
   as_aux_lemma =>
    obtain ⟨c0, c1, c2, c3, c4, c5, c6, c7, c8, c9, c10, c11, c12, c13, c14, c15, c16, c17, c18, hl⟩ := HB.out.all
    dsimp only at c0 c1 c2 c3 c4 c5 c6 c7 c8 c9 c10 c11 c12 c13 c14 c15 c16 c17 c18
    have hbel := HB.out.2
    by_cases h1 : unit < 1
    · have HD := Lib.hid (show decide (unit < 1 ∨ 247 < unit) = true from decide_eq_true (.inl h1))
      go_wp2_with fail
      go_meet
      exact ⟨by rw [HD.out], HB.out⟩
    · by_cases h2 : 247 < unit
      · have HD := Lib.hid (show decide (unit < 1 ∨ 247 < unit) = true from decide_eq_true (.inr h2))
        go_wp2_with fail
        go_meet
        exact ⟨by rw [HD.out], HB.out⟩
      · have HD := Lib.hid (show decide (unit < 1 ∨ 247 < unit) = false from decide_eq_false (by omega))
        have t2 : decide (247 < unit) = false := decide_eq_false h2
        go_wp2_with fail
        go_meet
        exact ⟨by rw [HD.out], HB.out⟩
  obtain ⟨rfl, hB⟩ := hcut
  obtain ⟨w3, rfl⟩ : ∃ wq : World, wq = wc := ⟨_, rfl⟩
  clear HB
  have HB := Lib.hid hB
  clear hB
  obtain ⟨b1, hb1⟩ : ∃ b, b = (decide (unit < 1 ∨ 247 < unit)) := ⟨_, rfl⟩
  rw [← hb1]
  have HB1 := Lib.hid hb1
  clear hb1
  cases b1
  rotate_left
  · have HE := Lib.hid (show (Tag.mk g unit kind addr every ⟨wide, signed, swap, mul, div, add⟩ ⟨dead, quiet⟩ ⟨ul, uh, la, lo, hi, hy⟩).err = 24 by rw [HR.out, ← HB1.out]; rfl)
    have hbel := HB.out.2
    go_wp2_with fail
    go_ret
    exact ⟨ret_int HE.out.symm, by (repeat (first | (with_reducible assumption) | (with_reducible exact Below.refl _ _) | ((with_reducible refine Below.setCell ?_ ?_ _); rotate_left; · (first | omega | (simp; done) | (simp; omega) | (simp at *; omega))) | ((with_reducible refine Below.alloc ?_ ?_ _); rotate_left; · (first | omega | (simp; done) | (simp; omega) | (simp at *; omega))) | (with_reducible refine Below.drew ?_) | (with_reducible refine below_drewN ?_ _) | ((refine Below.trans ?_ (Below.mono (by with_reducible assumption) ?_)); rotate_left; · (first | omega | (simp; done) | (simp; omega) | (simp at *; omega)))))⟩
  replace HR := Lib.hid (show (Tag.mk g unit kind addr every ⟨wide, signed, swap, mul, div, add⟩ ⟨dead, quiet⟩ ⟨ul, uh, la, lo, hi, hy⟩).err = (Tag.mk g unit kind addr every ⟨wide, signed, swap, mul, div, add⟩ ⟨dead, quiet⟩ ⟨ul, uh, la, lo, hi, hy⟩).errs true false (decide (kind < 1 ∨ 4 < kind)) (decide (addr < 0 ∨ 65536 - widthOf wide kind < addr)) (decide (every < 1 ∨ 1048576 < every)) (decide (kind ≤ 2) && !eqs wide signed swap mul div add) by rw [HR.out, ← HB1.out])
  go_upto_region 5 with fail
  go_cut [24] (fun s wx => s = .bool (decide (kind < 1 ∨ 4 < kind)) ∧ TB w (Tag.mk g unit kind addr every ⟨wide, signed, swap, mul, div, add⟩ ⟨dead, quiet⟩ ⟨ul, uh, la, lo, hi, hy⟩) wx)
  case first =>
   as_aux_lemma =>
    obtain ⟨c0, c1, c2, c3, c4, c5, c6, c7, c8, c9, c10, c11, c12, c13, c14, c15, c16, c17, c18, hl⟩ := HB.out.all
    dsimp only at c0 c1 c2 c3 c4 c5 c6 c7 c8 c9 c10 c11 c12 c13 c14 c15 c16 c17 c18
    have hbel := HB.out.2
    by_cases h1 : kind < 1
    · have HD := Lib.hid (show decide (kind < 1 ∨ 4 < kind) = true from decide_eq_true (.inl h1))
      go_wp2_with fail
      go_meet
      exact ⟨by rw [HD.out], HB.out⟩
    · by_cases h2 : 4 < kind
      · have HD := Lib.hid (show decide (kind < 1 ∨ 4 < kind) = true from decide_eq_true (.inr h2))
        go_wp2_with fail
        go_meet
        exact ⟨by rw [HD.out], HB.out⟩
      · have HD := Lib.hid (show decide (kind < 1 ∨ 4 < kind) = false from decide_eq_false (by omega))
        have t2 : decide (4 < kind) = false := decide_eq_false h2
        go_wp2_with fail
        go_meet
        exact ⟨by rw [HD.out], HB.out⟩
  obtain ⟨rfl, hB⟩ := hcut
  obtain ⟨w5, rfl⟩ : ∃ wq : World, wq = wc := ⟨_, rfl⟩
  clear HB
  have HB := Lib.hid hB
  clear hB
  obtain ⟨b2, hb2⟩ : ∃ b, b = (decide (kind < 1 ∨ 4 < kind)) := ⟨_, rfl⟩
  rw [← hb2]
  have HB2 := Lib.hid hb2
  clear hb2
  cases b2
  rotate_left
  · have HE := Lib.hid (show (Tag.mk g unit kind addr every ⟨wide, signed, swap, mul, div, add⟩ ⟨dead, quiet⟩ ⟨ul, uh, la, lo, hi, hy⟩).err = 28 by rw [HR.out, ← HB2.out]; rfl)
    have hbel := HB.out.2
    go_wp2_with fail
    go_ret
    exact ⟨ret_int HE.out.symm, by (repeat (first | (with_reducible assumption) | (with_reducible exact Below.refl _ _) | ((with_reducible refine Below.setCell ?_ ?_ _); rotate_left; · (first | omega | (simp; done) | (simp; omega) | (simp at *; omega))) | ((with_reducible refine Below.alloc ?_ ?_ _); rotate_left; · (first | omega | (simp; done) | (simp; omega) | (simp at *; omega))) | (with_reducible refine Below.drew ?_) | (with_reducible refine below_drewN ?_ _) | ((refine Below.trans ?_ (Below.mono (by with_reducible assumption) ?_)); rotate_left; · (first | omega | (simp; done) | (simp; omega) | (simp at *; omega)))))⟩
  replace HR := Lib.hid (show (Tag.mk g unit kind addr every ⟨wide, signed, swap, mul, div, add⟩ ⟨dead, quiet⟩ ⟨ul, uh, la, lo, hi, hy⟩).err = (Tag.mk g unit kind addr every ⟨wide, signed, swap, mul, div, add⟩ ⟨dead, quiet⟩ ⟨ul, uh, la, lo, hi, hy⟩).errs true false false (decide (addr < 0 ∨ 65536 - widthOf wide kind < addr)) (decide (every < 1 ∨ 1048576 < every)) (decide (kind ≤ 2) && !eqs wide signed swap mul div add) by rw [HR.out, ← HB2.out])
  go_upto_region 7 with fail
  go_cut [35] (fun s wx => s = .bool (decide (addr < 0 ∨ 65536 - widthOf wide kind < addr)) ∧ TB w (Tag.mk g unit kind addr every ⟨wide, signed, swap, mul, div, add⟩ ⟨dead, quiet⟩ ⟨ul, uh, la, lo, hi, hy⟩) wx)
  case first =>
   as_aux_lemma =>
    obtain ⟨c0, c1, c2, c3, c4, c5, c6, c7, c8, c9, c10, c11, c12, c13, c14, c15, c16, c17, c18, hl⟩ := HB.out.all
    dsimp only at c0 c1 c2 c3 c4 c5 c6 c7 c8 c9 c10 c11 c12 c13 c14 c15 c16 c17 c18
    have HW := Lib.hid (show ∀ w : World, Calls Try.prog 12 #[.agg #[.string g, .int .i64 unit, .int .i64 kind, .int .i64 addr, .int .i64 every, .bool wide, .bool signed, .bool swap, .int .i64 mul, .int .i64 div, .int .i64 add, .int .i64 dead, .int .i64 quiet, .bool ul, .bool uh, .bool la, .int .i64 lo, .int .i64 hi, .int .i64 hy]] w fun e w' => e = .returned (.int .i64 (widthOf wide kind)) ∧ Below w.heap.size w w' from fun w => rwidth_any (Tag.mk g unit kind addr every ⟨wide, signed, swap, mul, div, add⟩ ⟨dead, quiet⟩ ⟨ul, uh, la, lo, hi, hy⟩) w)
    obtain ⟨q1, q2⟩ := widthOf_in wide kind
    obtain ⟨q, hq⟩ : ∃ q, q = widthOf wide kind := ⟨_, rfl⟩
    rw [← hq] at q1 q2 HW
    have HQ := Lib.hid hq
    clear hq
    have e1 : wrap64 (65536 - q) = 65536 - q := IntWalk.wrap64_in _ ⟨by omega, by omega⟩
    have E1 := Lib.hid (show IntKind.i64.wrap (65536 - q) = 65536 - q from IntWalk.i64_in _ (by omega))
    clear e1
    by_cases h1 : addr < 0
    · have HD := Lib.hid (show decide (addr < 0 ∨ 65536 - widthOf wide kind < addr) = true from decide_eq_true (.inl h1))
      go_quiet (fail)
      go_wp2_with fail
      go_meet
      exact ⟨by rw [HD.out], HB.out.drewN _⟩
    · as_aux_lemma =>
        obtain ⟨b, hb⟩ : ∃ b, b = decide (65536 - q < addr) := ⟨_, rfl⟩
        have HD := Lib.hid (show decide (addr < 0 ∨ 65536 - widthOf wide kind < addr) = b by rw [hb, HQ.out]; simp [h1])
        have T2 := Lib.hid hb.symm
        clear hb q1 q2
        have hload := HB.out.load
        clear c0 c1 c2 c4 c5 c6 c7 c8 c9 c10 c11 c12 c13 c14 c15 c16 c17 c18
        have HS := Lib.hid (show ∀ w' : World, TB w (Tag.mk g unit kind addr every ⟨wide, signed, swap, mul, div, add⟩ ⟨dead, quiet⟩ ⟨ul, uh, la, lo, hi, hy⟩) w' → w'.cell? ⟨w.heap.size, 3, none⟩ = some (.int .i64 addr) ∧ (loadTag ⟨w.heap.size, 0, none⟩).run Try.prog w' = .ok (.agg #[.string g, .int .i64 unit, .int .i64 kind, .int .i64 addr, .int .i64 every, .bool wide, .bool signed, .bool swap, .int .i64 mul, .int .i64 div, .int .i64 add, .int .i64 dead, .int .i64 quiet, .bool ul, .bool uh, .bool la, .int .i64 lo, .int .i64 hi, .int .i64 hy]) w' ∧ w.heap.size < w'.heap.size ∧ TB w (Tag.mk g unit kind addr every ⟨wide, signed, swap, mul, div, add⟩ ⟨dead, quiet⟩ ⟨ul, uh, la, lo, hi, hy⟩) w' from fun w' h => by obtain ⟨c0, c1, c2, c3, c4, c5, c6, c7, c8, c9, c10, c11, c12, c13, c14, c15, c16, c17, c18, hl⟩ := h.all; exact ⟨c3, h.load, hl, h⟩)
        go_region_held3 (fun w' => w'.cell? ⟨w.heap.size, 3, none⟩ = some (.int .i64 addr) ∧ (loadTag ⟨w.heap.size, 0, none⟩).run Try.prog w' = .ok (.agg #[.string g, .int .i64 unit, .int .i64 kind, .int .i64 addr, .int .i64 every, .bool wide, .bool signed, .bool swap, .int .i64 mul, .int .i64 div, .int .i64 add, .int .i64 dead, .int .i64 quiet, .bool ul, .bool uh, .bool la, .int .i64 lo, .int .i64 hi, .int .i64 hy]) w' ∧ w.heap.size < w'.heap.size ∧ TB w (Tag.mk g unit kind addr every ⟨wide, signed, swap, mul, div, add⟩ ⟨dead, quiet⟩ ⟨ul, uh, la, lo, hi, hy⟩) w')
          (first
            | exact HS.out _ (HB.out.drewN 1)
            | exact HS.out _ (TB.on (by assumption) hb)
            | (go_split_ands; exact HS.out _ (TB.on (by assumption) hb)))
          ((go_at_call 12; (with_reducible refine (HW.out _).mono ?_); rintro e w' ⟨rfl, hb⟩))
        all_goals
          go_wp2_with fail
          go_meet
          (try go_split_ands)
          exact ⟨by rw [E1.out, T2.out, HD.out], by assumption⟩
  obtain ⟨rfl, hB⟩ := hcut
  obtain ⟨w7, rfl⟩ : ∃ wq : World, wq = wc := ⟨_, rfl⟩
  clear HB
  have HB := Lib.hid hB
  clear hB
  obtain ⟨b3, hb3⟩ : ∃ b, b = (decide (addr < 0 ∨ 65536 - widthOf wide kind < addr)) := ⟨_, rfl⟩
  rw [← hb3]
  have HB3 := Lib.hid hb3
  clear hb3
  cases b3
  rotate_left
  · have HE := Lib.hid (show (Tag.mk g unit kind addr every ⟨wide, signed, swap, mul, div, add⟩ ⟨dead, quiet⟩ ⟨ul, uh, la, lo, hi, hy⟩).err = 21 by rw [HR.out, ← HB3.out]; rfl)
    have hbel := HB.out.2
    go_wp2_with fail
    go_ret
    exact ⟨ret_int HE.out.symm, by (repeat (first | (with_reducible assumption) | (with_reducible exact Below.refl _ _) | ((with_reducible refine Below.setCell ?_ ?_ _); rotate_left; · (first | omega | (simp; done) | (simp; omega) | (simp at *; omega))) | ((with_reducible refine Below.alloc ?_ ?_ _); rotate_left; · (first | omega | (simp; done) | (simp; omega) | (simp at *; omega))) | (with_reducible refine Below.drew ?_) | (with_reducible refine below_drewN ?_ _) | ((refine Below.trans ?_ (Below.mono (by with_reducible assumption) ?_)); rotate_left; · (first | omega | (simp; done) | (simp; omega) | (simp at *; omega)))))⟩
  replace HR := Lib.hid (show (Tag.mk g unit kind addr every ⟨wide, signed, swap, mul, div, add⟩ ⟨dead, quiet⟩ ⟨ul, uh, la, lo, hi, hy⟩).err = (Tag.mk g unit kind addr every ⟨wide, signed, swap, mul, div, add⟩ ⟨dead, quiet⟩ ⟨ul, uh, la, lo, hi, hy⟩).errs true false false false (decide (every < 1 ∨ 1048576 < every)) (decide (kind ≤ 2) && !eqs wide signed swap mul div add) by rw [HR.out, ← HB3.out])
  go_upto_region 9 with fail
  go_cut [43] (fun s wx => s = .bool (decide (every < 1 ∨ 1048576 < every)) ∧ TB w (Tag.mk g unit kind addr every ⟨wide, signed, swap, mul, div, add⟩ ⟨dead, quiet⟩ ⟨ul, uh, la, lo, hi, hy⟩) wx)
  case first =>
   as_aux_lemma =>
    obtain ⟨c0, c1, c2, c3, c4, c5, c6, c7, c8, c9, c10, c11, c12, c13, c14, c15, c16, c17, c18, hl⟩ := HB.out.all
    dsimp only at c0 c1 c2 c3 c4 c5 c6 c7 c8 c9 c10 c11 c12 c13 c14 c15 c16 c17 c18
    have hbel := HB.out.2
    by_cases h1 : every < 1
    · have HD := Lib.hid (show decide (every < 1 ∨ 1048576 < every) = true from decide_eq_true (.inl h1))
      go_wp2_with fail
      go_meet
      exact ⟨by rw [HD.out], HB.out⟩
    · by_cases h2 : 1048576 < every
      · have HD := Lib.hid (show decide (every < 1 ∨ 1048576 < every) = true from decide_eq_true (.inr h2))
        go_wp2_with fail
        go_meet
        exact ⟨by rw [HD.out], HB.out⟩
      · have HD := Lib.hid (show decide (every < 1 ∨ 1048576 < every) = false from decide_eq_false (by omega))
        have t2 : decide (1048576 < every) = false := decide_eq_false h2
        go_wp2_with fail
        go_meet
        exact ⟨by rw [HD.out], HB.out⟩
  obtain ⟨rfl, hB⟩ := hcut
  obtain ⟨w9, rfl⟩ : ∃ wq : World, wq = wc := ⟨_, rfl⟩
  clear HB
  have HB := Lib.hid hB
  clear hB
  obtain ⟨b4, hb4⟩ : ∃ b, b = (decide (every < 1 ∨ 1048576 < every)) := ⟨_, rfl⟩
  rw [← hb4]
  have HB4 := Lib.hid hb4
  clear hb4
  cases b4
  rotate_left
  · have HE := Lib.hid (show (Tag.mk g unit kind addr every ⟨wide, signed, swap, mul, div, add⟩ ⟨dead, quiet⟩ ⟨ul, uh, la, lo, hi, hy⟩).err = 3 by rw [HR.out, ← HB4.out]; rfl)
    have hbel := HB.out.2
    go_wp2_with fail
    go_ret
    exact ⟨ret_int HE.out.symm, by (repeat (first | (with_reducible assumption) | (with_reducible exact Below.refl _ _) | ((with_reducible refine Below.setCell ?_ ?_ _); rotate_left; · (first | omega | (simp; done) | (simp; omega) | (simp at *; omega))) | ((with_reducible refine Below.alloc ?_ ?_ _); rotate_left; · (first | omega | (simp; done) | (simp; omega) | (simp at *; omega))) | (with_reducible refine Below.drew ?_) | (with_reducible refine below_drewN ?_ _) | ((refine Below.trans ?_ (Below.mono (by with_reducible assumption) ?_)); rotate_left; · (first | omega | (simp; done) | (simp; omega) | (simp at *; omega)))))⟩
  replace HR := Lib.hid (show (Tag.mk g unit kind addr every ⟨wide, signed, swap, mul, div, add⟩ ⟨dead, quiet⟩ ⟨ul, uh, la, lo, hi, hy⟩).err = (Tag.mk g unit kind addr every ⟨wide, signed, swap, mul, div, add⟩ ⟨dead, quiet⟩ ⟨ul, uh, la, lo, hi, hy⟩).errs true false false false false (decide (kind ≤ 2) && !eqs wide signed swap mul div add) by rw [HR.out, ← HB4.out])
  go_upto_region 11 with fail
  go_cut [3] (fun s wx => s = .int .i64 ((Sca.mk wide signed swap mul div add).err) ∧ TB w (Tag.mk g unit kind addr every ⟨wide, signed, swap, mul, div, add⟩ ⟨dead, quiet⟩ ⟨ul, uh, la, lo, hi, hy⟩) wx)
  case first =>
   as_aux_lemma =>
    obtain ⟨c0, c1, c2, c3, c4, c5, c6, c7, c8, c9, c10, c11, c12, c13, c14, c15, c16, c17, c18, hl⟩ := HB.out.all
    dsimp only at c0 c1 c2 c3 c4 c5 c6 c7 c8 c9 c10 c11 c12 c13 c14 c15 c16 c17 c18
    have HC := Lib.hid (show ∀ w : World, Calls Try.prog 28 #[.agg #[.bool wide, .bool signed, .bool swap, .int .i64 mul, .int .i64 div, .int .i64 add]] w fun e w' => e = .returned (.int .i64 ((Sca.mk wide signed swap mul div add).err)) ∧ Below w.heap.size w w' from fun w => sca_rcheck (Sca.mk wide signed swap mul div add) w)
    go_wp2_with (first | (go_at_call 28; (with_reducible refine (HC.out _).mono ?_); rintro e w' ⟨rfl, hb⟩) | fail)
    go_meet
    exact ⟨rfl, HB.out.on hb⟩
  obtain ⟨rfl, hB⟩ := hcut
  obtain ⟨w11, rfl⟩ : ∃ wq : World, wq = wc := ⟨_, rfl⟩
  clear HB
  have HB := Lib.hid hB
  clear hB
  obtain ⟨e6, he6⟩ : ∃ x, x = ((Sca.mk wide signed swap mul div add).err) := ⟨_, rfl⟩
  rw [← he6]
  have HE6 := Lib.hid he6
  clear he6
  by_cases hz : e6 = 0
  rotate_left
  · have HE := Lib.hid (show (Tag.mk g unit kind addr every ⟨wide, signed, swap, mul, div, add⟩ ⟨dead, quiet⟩ ⟨ul, uh, la, lo, hi, hy⟩).err = e6 by rw [HR.out, Tag.errs_sca (by rw [← HE6.out]; exact hz)]; exact HE6.out.symm)
    have n1 : (e6 != 0) = true := by rw [bne_iff_ne]; exact hz
    have hbel := HB.out.2
    clear hz
    go_wp2_with fail
    go_ret
    exact ⟨ret_int HE.out.symm, by (repeat (first | (with_reducible assumption) | (with_reducible exact Below.refl _ _) | ((with_reducible refine Below.setCell ?_ ?_ _); rotate_left; · (first | omega | (simp; done) | (simp; omega) | (simp at *; omega))) | ((with_reducible refine Below.alloc ?_ ?_ _); rotate_left; · (first | omega | (simp; done) | (simp; omega) | (simp at *; omega))) | (with_reducible refine Below.drew ?_) | (with_reducible refine below_drewN ?_ _) | ((refine Below.trans ?_ (Below.mono (by with_reducible assumption) ?_)); rotate_left; · (first | omega | (simp; done) | (simp; omega) | (simp at *; omega)))))⟩
  have HZ6 := Lib.hid hz
  subst hz
  have HR6 := Lib.hid (show (Tag.mk g unit kind addr every ⟨wide, signed, swap, mul, div, add⟩ ⟨dead, quiet⟩ ⟨ul, uh, la, lo, hi, hy⟩).err = if (decide (kind ≤ 2) && !eqs wide signed swap mul div add) = true then 25 else if bandErr ⟨dead, quiet⟩ ≠ 0 then bandErr ⟨dead, quiet⟩ else (Lim.mk ul uh la lo hi hy).err by rw [HR.out]; exact Tag.errs_next HE6.out.symm)
  go_upto_region 14 with fail
  go_cut [58] (fun s wx => s = .bool (decide (kind ≤ 2) && !eqs wide signed swap mul div add) ∧ TB w (Tag.mk g unit kind addr every ⟨wide, signed, swap, mul, div, add⟩ ⟨dead, quiet⟩ ⟨ul, uh, la, lo, hi, hy⟩) wx)
  case first =>
   as_aux_lemma =>
    obtain ⟨c0, c1, c2, c3, c4, c5, c6, c7, c8, c9, c10, c11, c12, c13, c14, c15, c16, c17, c18, hl⟩ := HB.out.all
    dsimp only at c0 c1 c2 c3 c4 c5 c6 c7 c8 c9 c10 c11 c12 c13 c14 c15 c16 c17 c18
    by_cases h1 : kind ≤ 2
    · have t1 : decide (kind ≤ 2) = true := decide_eq_true h1
      have HD := Lib.hid t1
      go_wp2_with fail
      go_meet
      exact ⟨by rw [HD.out, Bool.true_and], HB.out⟩
    · have t1 : decide (kind ≤ 2) = false := decide_eq_false h1
      have HD := Lib.hid t1
      go_wp2_with fail
      go_meet
      exact ⟨by rw [HD.out, Bool.false_and], HB.out⟩
  obtain ⟨rfl, hB⟩ := hcut
  obtain ⟨w14, rfl⟩ : ∃ wq : World, wq = wc := ⟨_, rfl⟩
  clear HB
  have HB := Lib.hid hB
  clear hB
  obtain ⟨b5, hb5⟩ : ∃ b, b = (decide (kind ≤ 2) && !eqs wide signed swap mul div add) := ⟨_, rfl⟩
  rw [← hb5]
  have HB5 := Lib.hid hb5
  clear hb5
  cases b5
  rotate_left
  · have HE := Lib.hid (show (Tag.mk g unit kind addr every ⟨wide, signed, swap, mul, div, add⟩ ⟨dead, quiet⟩ ⟨ul, uh, la, lo, hi, hy⟩).err = 25 by rw [HR6.out, ← HB5.out]; rfl)
    have hbel := HB.out.2
    go_wp2_with fail
    go_ret
    exact ⟨ret_int HE.out.symm, by (repeat (first | (with_reducible assumption) | (with_reducible exact Below.refl _ _) | ((with_reducible refine Below.setCell ?_ ?_ _); rotate_left; · (first | omega | (simp; done) | (simp; omega) | (simp at *; omega))) | ((with_reducible refine Below.alloc ?_ ?_ _); rotate_left; · (first | omega | (simp; done) | (simp; omega) | (simp at *; omega))) | (with_reducible refine Below.drew ?_) | (with_reducible refine below_drewN ?_ _) | ((refine Below.trans ?_ (Below.mono (by with_reducible assumption) ?_)); rotate_left; · (first | omega | (simp; done) | (simp; omega) | (simp at *; omega)))))⟩
  have HR7 := Lib.hid (show (Tag.mk g unit kind addr every ⟨wide, signed, swap, mul, div, add⟩ ⟨dead, quiet⟩ ⟨ul, uh, la, lo, hi, hy⟩).err = if bandErr ⟨dead, quiet⟩ ≠ 0 then bandErr ⟨dead, quiet⟩ else (Lim.mk ul uh la lo hi hy).err by rw [HR6.out, ← HB5.out]; rfl)
  go_upto_region 16 with fail
  go_cut [4] (fun s wx => s = .int .i64 (bandErr ⟨dead, quiet⟩) ∧ TB w (Tag.mk g unit kind addr every ⟨wide, signed, swap, mul, div, add⟩ ⟨dead, quiet⟩ ⟨ul, uh, la, lo, hi, hy⟩) wx)
  case first =>
   as_aux_lemma =>
    obtain ⟨c0, c1, c2, c3, c4, c5, c6, c7, c8, c9, c10, c11, c12, c13, c14, c15, c16, c17, c18, hl⟩ := HB.out.all
    dsimp only at c0 c1 c2 c3 c4 c5 c6 c7 c8 c9 c10 c11 c12 c13 c14 c15 c16 c17 c18
    have HC := Lib.hid (show ∀ w : World, Calls Try.prog 29 #[.agg #[.int .i64 dead, .int .i64 quiet]] w fun e w' => e = .returned (.int .i64 (bandErr ⟨dead, quiet⟩)) ∧ Below w.heap.size w w' from fun w => band_rcheck ⟨dead, quiet⟩ w)
    go_wp2_with (first | (go_at_call 29; (with_reducible refine (HC.out _).mono ?_); rintro e w' ⟨rfl, hb⟩) | fail)
    go_meet
    exact ⟨rfl, HB.out.on hb⟩
  obtain ⟨rfl, hB⟩ := hcut
  obtain ⟨w16, rfl⟩ : ∃ wq : World, wq = wc := ⟨_, rfl⟩
  clear HB
  have HB := Lib.hid hB
  clear hB
  obtain ⟨e7, he7⟩ : ∃ x, x = (bandErr ⟨dead, quiet⟩) := ⟨_, rfl⟩
  rw [← he7]
  have HE7 := Lib.hid he7
  clear he7
  by_cases hz : e7 = 0
  rotate_left
  · have HE := Lib.hid (show (Tag.mk g unit kind addr every ⟨wide, signed, swap, mul, div, add⟩ ⟨dead, quiet⟩ ⟨ul, uh, la, lo, hi, hy⟩).err = e7 by rw [HR7.out, ← HE7.out, if_pos hz])
    have n1 : (e7 != 0) = true := by rw [bne_iff_ne]; exact hz
    have hbel := HB.out.2
    clear hz
    go_wp2_with fail
    go_ret
    exact ⟨ret_int HE.out.symm, by (repeat (first | (with_reducible assumption) | (with_reducible exact Below.refl _ _) | ((with_reducible refine Below.setCell ?_ ?_ _); rotate_left; · (first | omega | (simp; done) | (simp; omega) | (simp at *; omega))) | ((with_reducible refine Below.alloc ?_ ?_ _); rotate_left; · (first | omega | (simp; done) | (simp; omega) | (simp at *; omega))) | (with_reducible refine Below.drew ?_) | (with_reducible refine below_drewN ?_ _) | ((refine Below.trans ?_ (Below.mono (by with_reducible assumption) ?_)); rotate_left; · (first | omega | (simp; done) | (simp; omega) | (simp at *; omega)))))⟩
  have HZ7 := Lib.hid hz
  subst hz
  have HE := Lib.hid (show (Tag.mk g unit kind addr every ⟨wide, signed, swap, mul, div, add⟩ ⟨dead, quiet⟩ ⟨ul, uh, la, lo, hi, hy⟩).err = (Lim.mk ul uh la lo hi hy).err by rw [HR7.out, ← HE7.out]; rfl)
  obtain ⟨c0, c1, c2, c3, c4, c5, c6, c7, c8, c9, c10, c11, c12, c13, c14, c15, c16, c17, c18, hl⟩ := HB.out.all
  dsimp only at c0 c1 c2 c3 c4 c5 c6 c7 c8 c9 c10 c11 c12 c13 c14 c15 c16 c17 c18
  have hbel := HB.out.2
  have HC := Lib.hid (show ∀ w : World, Calls Try.prog 30 #[.agg #[.bool ul, .bool uh, .bool la, .int .i64 lo, .int .i64 hi, .int .i64 hy]] w fun e w' => e = .returned (.int .i64 ((Lim.mk ul uh la lo hi hy).err)) ∧ Below w.heap.size w w' from fun w => lim_rcheck (Lim.mk ul uh la lo hi hy) w)
  go_wp2_with (first | (go_at_call 30; (with_reducible refine (HC.out _).mono ?_); rintro e w' ⟨rfl, hb⟩) | fail)
  go_ret
  exact ⟨ret_int HE.out.symm, HB.out.bel hb⟩
end Go.Proofs.Ythnhholpkomdhaa
