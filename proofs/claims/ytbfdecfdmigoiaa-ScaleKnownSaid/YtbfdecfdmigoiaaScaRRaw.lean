/-
  What is proved here: what Raw of package scale, in the reference answers (chapter 6). Conditions: the words are words.
-/
import Derived.Test.YtbfdecfdmigoiaaScaRaw
namespace Go.Proofs.Ytbfdecfdmigoiaa
open Go.RowKit Go.Deep


set_option maxHeartbeats 1000000 in
theorem rraw_FFF (mul div add a : Int) (r : Int) (bb off cap : Nat) (w : World) (ho : (Sca.mk false false false mul div add).Ok) (hbb : bb < w.heap.size) (x0 : w.cell? ⟨bb, off, none⟩ = some (.int .u16 a)) (ha : U16 a) (hr : r = a) :
    Calls Try.prog 14 #[.agg #[.bool false, .bool false, .bool false, .int .i64 mul, .int .i64 div, .int .i64 add], .slice (some ⟨bb, off, none⟩) 1 cap] w fun e w' => e = .returned (.tuple #[.int .i64 r, .int .i64 0]) ∧ Below w.heap.size w w' := by
  have HB := Lib.hid (show CB w w.heap.size (Sca.mk false false false mul div add) (w.alloc (.cells #[.bool false, .bool false, .bool false, .int .i64 mul, .int .i64 div, .int .i64 add] 23)) from ⟨Blk.new _ _ _, by (repeat (first | (with_reducible assumption) | (with_reducible exact Below.refl _ _) | ((with_reducible refine Below.setCell ?_ ?_ _); rotate_left; · (first | omega | (simp; done) | (simp; omega) | (simp at *; omega))) | ((with_reducible refine Below.alloc ?_ ?_ _); rotate_left; · (first | omega | (simp; done) | (simp; omega) | (simp at *; omega))) | (with_reducible refine Below.drew ?_) | (with_reducible refine below_drewN ?_ _) | ((refine Below.trans ?_ (Below.mono (by with_reducible assumption) ?_)); rotate_left; · (first | omega | (simp; done) | (simp; omega) | (simp at *; omega)))))⟩)
  have HE := Lib.hid (show (Sca.mk false false false mul div add).err = 0 from if_pos ho)
  clear ho
  obtain ⟨a0, a1⟩ := ha
  have HF := Lib.hid hr
  clear hr
  go_enter Try.func14, Try.ntmps14
  obtain ⟨c0, c1, c2, c3, c4, c5, hl⟩ := HB.out.all
  dsimp only at c0 c1 c2 c3 c4 c5
  go_wp2_with fail
  refine (rcheck_at (Sca.mk false false false mul div add) _ 0 HE.out).mono ?_
  rintro e w1 ⟨rfl, hb1⟩
  have HB2 := Lib.hid (show CB w w.heap.size (Sca.mk false false false mul div add) w1 from ⟨Blk.below HB.out.1 hb1 HB.out.1.lt, HB.out.2.trans (hb1.mono (by simp))⟩)
  clear c0 c1 c2 c3 c4 c5 hl hb1 HB
  obtain ⟨c0, c1, c2, c3, c4, c5, hl⟩ := HB2.out.all
  dsimp only at c0 c1 c2 c3 c4 c5
  have y0 := (HB2.out.2.cell (p := ⟨bb, off, none⟩) hbb).trans x0
  have hbel := HB2.out.2
  go_wp2_with fail
  refine bodyPost_ret (v := .tuple #[.int .i64 (a), .int .i64 0]) ?_ rfl ⟨by rw [HF.out], by (repeat (first | (with_reducible assumption) | (with_reducible exact Below.refl _ _) | ((with_reducible refine Below.setCell ?_ ?_ _); rotate_left; · (first | omega | (simp; done) | (simp; omega) | (simp at *; omega))) | ((with_reducible refine Below.alloc ?_ ?_ _); rotate_left; · (first | omega | (simp; done) | (simp; omega) | (simp at *; omega))) | (with_reducible refine Below.drew ?_) | (with_reducible refine below_drewN ?_ _) | ((refine Below.trans ?_ (Below.mono (by with_reducible assumption) ?_)); rotate_left; · (first | omega | (simp; done) | (simp; omega) | (simp at *; omega)))))⟩
  simp [results, Try.results14, go_sem]

set_option maxHeartbeats 1000000 in
theorem rraw_FFT (mul div add a : Int) (r : Int) (bb off cap : Nat) (w : World) (ho : (Sca.mk false true false mul div add).Ok) (hbb : bb < w.heap.size) (x0 : w.cell? ⟨bb, off, none⟩ = some (.int .u16 a)) (ha : U16 a) (hr : r = if 65536 ≤ 2 * (a) then a - 65536 else a) :
    Calls Try.prog 14 #[.agg #[.bool false, .bool true, .bool false, .int .i64 mul, .int .i64 div, .int .i64 add], .slice (some ⟨bb, off, none⟩) 1 cap] w fun e w' => e = .returned (.tuple #[.int .i64 r, .int .i64 0]) ∧ Below w.heap.size w w' := by
  have HB := Lib.hid (show CB w w.heap.size (Sca.mk false true false mul div add) (w.alloc (.cells #[.bool false, .bool true, .bool false, .int .i64 mul, .int .i64 div, .int .i64 add] 23)) from ⟨Blk.new _ _ _, by (repeat (first | (with_reducible assumption) | (with_reducible exact Below.refl _ _) | ((with_reducible refine Below.setCell ?_ ?_ _); rotate_left; · (first | omega | (simp; done) | (simp; omega) | (simp at *; omega))) | ((with_reducible refine Below.alloc ?_ ?_ _); rotate_left; · (first | omega | (simp; done) | (simp; omega) | (simp at *; omega))) | (with_reducible refine Below.drew ?_) | (with_reducible refine below_drewN ?_ _) | ((refine Below.trans ?_ (Below.mono (by with_reducible assumption) ?_)); rotate_left; · (first | omega | (simp; done) | (simp; omega) | (simp at *; omega)))))⟩)
  have HE := Lib.hid (show (Sca.mk false true false mul div add).err = 0 from if_pos ho)
  clear ho
  obtain ⟨a0, a1⟩ := ha
  by_cases ht : 65536 ≤ 2 * (a)
  · have HF := Lib.hid (show r = a - 65536 by rw [hr, if_pos ht])
    have t1 : 32768 ≤ a := by omega
    clear hr
    go_enter Try.func14, Try.ntmps14
    obtain ⟨c0, c1, c2, c3, c4, c5, hl⟩ := HB.out.all
    dsimp only at c0 c1 c2 c3 c4 c5
    go_wp2_with fail
    refine (rcheck_at (Sca.mk false true false mul div add) _ 0 HE.out).mono ?_
    rintro e w1 ⟨rfl, hb1⟩
    have HB2 := Lib.hid (show CB w w.heap.size (Sca.mk false true false mul div add) w1 from ⟨Blk.below HB.out.1 hb1 HB.out.1.lt, HB.out.2.trans (hb1.mono (by simp))⟩)
    clear c0 c1 c2 c3 c4 c5 hl hb1 HB
    obtain ⟨c0, c1, c2, c3, c4, c5, hl⟩ := HB2.out.all
    dsimp only at c0 c1 c2 c3 c4 c5
    have y0 := (HB2.out.2.cell (p := ⟨bb, off, none⟩) hbb).trans x0
    have hbel := HB2.out.2
    go_wp2_with fail
    refine (many_at (Sca.mk false true false mul div add) _ 65536 rfl).mono ?_
    rintro e w2 ⟨rfl, hb2⟩
    have HB3 := Lib.hid (show CB w w.heap.size (Sca.mk false true false mul div add) w2 from ⟨Blk.below HB2.out.1 hb2 HB2.out.1.lt, HB2.out.2.trans (hb2.mono HB2.out.2.size)⟩)
    clear c0 c1 c2 c3 c4 c5 hl hb2 HB2 hbel y0
    obtain ⟨c0, c1, c2, c3, c4, c5, hl⟩ := HB3.out.all
    dsimp only at c0 c1 c2 c3 c4 c5
    have hbel := HB3.out.2
    go_wp2_with fail
    refine (many_at (Sca.mk false true false mul div add) _ 65536 rfl).mono ?_
    rintro e w3 ⟨rfl, hb3⟩
    have HB4 := Lib.hid (show CB w w.heap.size (Sca.mk false true false mul div add) w3 from ⟨Blk.below HB3.out.1 hb3 HB3.out.1.lt, HB3.out.2.trans (hb3.mono HB3.out.2.size)⟩)
    clear c0 c1 c2 c3 c4 c5 hl hb3 HB3 hbel
    obtain ⟨c0, c1, c2, c3, c4, c5, hl⟩ := HB4.out.all
    dsimp only at c0 c1 c2 c3 c4 c5
    have hbel := HB4.out.2
    go_wp2_with fail
    refine bodyPost_ret (v := .tuple #[.int .i64 (a - 65536), .int .i64 0]) ?_ rfl ⟨by rw [HF.out], by (repeat (first | (with_reducible assumption) | (with_reducible exact Below.refl _ _) | ((with_reducible refine Below.setCell ?_ ?_ _); rotate_left; · (first | omega | (simp; done) | (simp; omega) | (simp at *; omega))) | ((with_reducible refine Below.alloc ?_ ?_ _); rotate_left; · (first | omega | (simp; done) | (simp; omega) | (simp at *; omega))) | (with_reducible refine Below.drew ?_) | (with_reducible refine below_drewN ?_ _) | ((refine Below.trans ?_ (Below.mono (by with_reducible assumption) ?_)); rotate_left; · (first | omega | (simp; done) | (simp; omega) | (simp at *; omega)))))⟩
    simp [results, Try.results14, go_sem]
  · have HF := Lib.hid (show r = a by rw [hr, if_neg ht])
    clear hr
    have t1 : decide (32768 ≤ a) = false := decide_eq_false (by omega)
    have t2 : decide (65536 ≤ 2 * (a)) = false := decide_eq_false (by omega)
    go_enter Try.func14, Try.ntmps14
    obtain ⟨c0, c1, c2, c3, c4, c5, hl⟩ := HB.out.all
    dsimp only at c0 c1 c2 c3 c4 c5
    go_wp2_with fail
    refine (rcheck_at (Sca.mk false true false mul div add) _ 0 HE.out).mono ?_
    rintro e w1 ⟨rfl, hb1⟩
    have HB2 := Lib.hid (show CB w w.heap.size (Sca.mk false true false mul div add) w1 from ⟨Blk.below HB.out.1 hb1 HB.out.1.lt, HB.out.2.trans (hb1.mono (by simp))⟩)
    clear c0 c1 c2 c3 c4 c5 hl hb1 HB
    obtain ⟨c0, c1, c2, c3, c4, c5, hl⟩ := HB2.out.all
    dsimp only at c0 c1 c2 c3 c4 c5
    have y0 := (HB2.out.2.cell (p := ⟨bb, off, none⟩) hbb).trans x0
    have hbel := HB2.out.2
    go_wp2_with fail
    refine (many_at (Sca.mk false true false mul div add) _ 65536 rfl).mono ?_
    rintro e w2 ⟨rfl, hb2⟩
    have HB3 := Lib.hid (show CB w w.heap.size (Sca.mk false true false mul div add) w2 from ⟨Blk.below HB2.out.1 hb2 HB2.out.1.lt, HB2.out.2.trans (hb2.mono HB2.out.2.size)⟩)
    clear c0 c1 c2 c3 c4 c5 hl hb2 HB2 hbel y0
    obtain ⟨c0, c1, c2, c3, c4, c5, hl⟩ := HB3.out.all
    dsimp only at c0 c1 c2 c3 c4 c5
    have hbel := HB3.out.2
    go_wp2_with fail
    refine bodyPost_ret (v := .tuple #[.int .i64 (a), .int .i64 0]) ?_ rfl ⟨by rw [HF.out], by (repeat (first | (with_reducible assumption) | (with_reducible exact Below.refl _ _) | ((with_reducible refine Below.setCell ?_ ?_ _); rotate_left; · (first | omega | (simp; done) | (simp; omega) | (simp at *; omega))) | ((with_reducible refine Below.alloc ?_ ?_ _); rotate_left; · (first | omega | (simp; done) | (simp; omega) | (simp at *; omega))) | (with_reducible refine Below.drew ?_) | (with_reducible refine below_drewN ?_ _) | ((refine Below.trans ?_ (Below.mono (by with_reducible assumption) ?_)); rotate_left; · (first | omega | (simp; done) | (simp; omega) | (simp at *; omega)))))⟩
    simp [results, Try.results14, go_sem]

set_option maxHeartbeats 1000000 in
theorem rraw_TFF (mul div add a b : Int) (r : Int) (bb off cap : Nat) (w : World) (ho : (Sca.mk true false false mul div add).Ok) (hbb : bb < w.heap.size) (x0 : w.cell? ⟨bb, off, none⟩ = some (.int .u16 a)) (ha : U16 a) (x1 : w.cell? ⟨bb, off + 1, none⟩ = some (.int .u16 b)) (hb : U16 b) (hr : r = a * 65536 + b) :
    Calls Try.prog 14 #[.agg #[.bool true, .bool false, .bool false, .int .i64 mul, .int .i64 div, .int .i64 add], .slice (some ⟨bb, off, none⟩) 2 cap] w fun e w' => e = .returned (.tuple #[.int .i64 r, .int .i64 0]) ∧ Below w.heap.size w w' := by
  have HB := Lib.hid (show CB w w.heap.size (Sca.mk true false false mul div add) (w.alloc (.cells #[.bool true, .bool false, .bool false, .int .i64 mul, .int .i64 div, .int .i64 add] 23)) from ⟨Blk.new _ _ _, by (repeat (first | (with_reducible assumption) | (with_reducible exact Below.refl _ _) | ((with_reducible refine Below.setCell ?_ ?_ _); rotate_left; · (first | omega | (simp; done) | (simp; omega) | (simp at *; omega))) | ((with_reducible refine Below.alloc ?_ ?_ _); rotate_left; · (first | omega | (simp; done) | (simp; omega) | (simp at *; omega))) | (with_reducible refine Below.drew ?_) | (with_reducible refine below_drewN ?_ _) | ((refine Below.trans ?_ (Below.mono (by with_reducible assumption) ?_)); rotate_left; · (first | omega | (simp; done) | (simp; omega) | (simp at *; omega)))))⟩)
  have HE := Lib.hid (show (Sca.mk true false false mul div add).err = 0 from if_pos ho)
  clear ho
  obtain ⟨a0, a1⟩ := ha
  obtain ⟨b0, b1⟩ := hb
  have HF := Lib.hid hr
  clear hr
  go_enter Try.func14, Try.ntmps14
  obtain ⟨c0, c1, c2, c3, c4, c5, hl⟩ := HB.out.all
  dsimp only at c0 c1 c2 c3 c4 c5
  go_wp2_with fail
  refine (rcheck_at (Sca.mk true false false mul div add) _ 0 HE.out).mono ?_
  rintro e w1 ⟨rfl, hb1⟩
  have HB2 := Lib.hid (show CB w w.heap.size (Sca.mk true false false mul div add) w1 from ⟨Blk.below HB.out.1 hb1 HB.out.1.lt, HB.out.2.trans (hb1.mono (by simp))⟩)
  clear c0 c1 c2 c3 c4 c5 hl hb1 HB
  obtain ⟨c0, c1, c2, c3, c4, c5, hl⟩ := HB2.out.all
  dsimp only at c0 c1 c2 c3 c4 c5
  have y0 := (HB2.out.2.cell (p := ⟨bb, off, none⟩) hbb).trans x0
  have y1 := (HB2.out.2.cell (p := ⟨bb, off + 1, none⟩) hbb).trans x1
  have hbel := HB2.out.2
  go_wp2_with fail
  refine bodyPost_ret (v := .tuple #[.int .i64 (a * 65536 + b), .int .i64 0]) ?_ rfl ⟨by rw [HF.out], by (repeat (first | (with_reducible assumption) | (with_reducible exact Below.refl _ _) | ((with_reducible refine Below.setCell ?_ ?_ _); rotate_left; · (first | omega | (simp; done) | (simp; omega) | (simp at *; omega))) | ((with_reducible refine Below.alloc ?_ ?_ _); rotate_left; · (first | omega | (simp; done) | (simp; omega) | (simp at *; omega))) | (with_reducible refine Below.drew ?_) | (with_reducible refine below_drewN ?_ _) | ((refine Below.trans ?_ (Below.mono (by with_reducible assumption) ?_)); rotate_left; · (first | omega | (simp; done) | (simp; omega) | (simp at *; omega)))))⟩
  simp [results, Try.results14, go_sem]
  try omega

set_option maxHeartbeats 1000000 in
theorem rraw_TFT (mul div add a b : Int) (r : Int) (bb off cap : Nat) (w : World) (ho : (Sca.mk true true false mul div add).Ok) (hbb : bb < w.heap.size) (x0 : w.cell? ⟨bb, off, none⟩ = some (.int .u16 a)) (ha : U16 a) (x1 : w.cell? ⟨bb, off + 1, none⟩ = some (.int .u16 b)) (hb : U16 b) (hr : r = if 4294967296 ≤ 2 * (a * 65536 + b) then a * 65536 + b - 4294967296 else a * 65536 + b) :
    Calls Try.prog 14 #[.agg #[.bool true, .bool true, .bool false, .int .i64 mul, .int .i64 div, .int .i64 add], .slice (some ⟨bb, off, none⟩) 2 cap] w fun e w' => e = .returned (.tuple #[.int .i64 r, .int .i64 0]) ∧ Below w.heap.size w w' := by
  have HB := Lib.hid (show CB w w.heap.size (Sca.mk true true false mul div add) (w.alloc (.cells #[.bool true, .bool true, .bool false, .int .i64 mul, .int .i64 div, .int .i64 add] 23)) from ⟨Blk.new _ _ _, by (repeat (first | (with_reducible assumption) | (with_reducible exact Below.refl _ _) | ((with_reducible refine Below.setCell ?_ ?_ _); rotate_left; · (first | omega | (simp; done) | (simp; omega) | (simp at *; omega))) | ((with_reducible refine Below.alloc ?_ ?_ _); rotate_left; · (first | omega | (simp; done) | (simp; omega) | (simp at *; omega))) | (with_reducible refine Below.drew ?_) | (with_reducible refine below_drewN ?_ _) | ((refine Below.trans ?_ (Below.mono (by with_reducible assumption) ?_)); rotate_left; · (first | omega | (simp; done) | (simp; omega) | (simp at *; omega)))))⟩)
  have HE := Lib.hid (show (Sca.mk true true false mul div add).err = 0 from if_pos ho)
  clear ho
  obtain ⟨a0, a1⟩ := ha
  obtain ⟨b0, b1⟩ := hb
  by_cases ht : 4294967296 ≤ 2 * (a * 65536 + b)
  · have HF := Lib.hid (show r = a * 65536 + b - 4294967296 by rw [hr, if_pos ht])
    have t1 : 2147483648 ≤ a * 65536 + b := by omega
    clear hr
    go_enter Try.func14, Try.ntmps14
    obtain ⟨c0, c1, c2, c3, c4, c5, hl⟩ := HB.out.all
    dsimp only at c0 c1 c2 c3 c4 c5
    go_wp2_with fail
    refine (rcheck_at (Sca.mk true true false mul div add) _ 0 HE.out).mono ?_
    rintro e w1 ⟨rfl, hb1⟩
    have HB2 := Lib.hid (show CB w w.heap.size (Sca.mk true true false mul div add) w1 from ⟨Blk.below HB.out.1 hb1 HB.out.1.lt, HB.out.2.trans (hb1.mono (by simp))⟩)
    clear c0 c1 c2 c3 c4 c5 hl hb1 HB
    obtain ⟨c0, c1, c2, c3, c4, c5, hl⟩ := HB2.out.all
    dsimp only at c0 c1 c2 c3 c4 c5
    have y0 := (HB2.out.2.cell (p := ⟨bb, off, none⟩) hbb).trans x0
    have y1 := (HB2.out.2.cell (p := ⟨bb, off + 1, none⟩) hbb).trans x1
    have hbel := HB2.out.2
    go_wp2_with fail
    refine (many_at (Sca.mk true true false mul div add) _ 4294967296 rfl).mono ?_
    rintro e w2 ⟨rfl, hb2⟩
    have HB3 := Lib.hid (show CB w w.heap.size (Sca.mk true true false mul div add) w2 from ⟨Blk.below HB2.out.1 hb2 HB2.out.1.lt, HB2.out.2.trans (hb2.mono HB2.out.2.size)⟩)
    clear c0 c1 c2 c3 c4 c5 hl hb2 HB2 hbel y0 y1
    obtain ⟨c0, c1, c2, c3, c4, c5, hl⟩ := HB3.out.all
    dsimp only at c0 c1 c2 c3 c4 c5
    have hbel := HB3.out.2
    go_wp2_with fail
    refine (many_at (Sca.mk true true false mul div add) _ 4294967296 rfl).mono ?_
    rintro e w3 ⟨rfl, hb3⟩
    have HB4 := Lib.hid (show CB w w.heap.size (Sca.mk true true false mul div add) w3 from ⟨Blk.below HB3.out.1 hb3 HB3.out.1.lt, HB3.out.2.trans (hb3.mono HB3.out.2.size)⟩)
    clear c0 c1 c2 c3 c4 c5 hl hb3 HB3 hbel
    obtain ⟨c0, c1, c2, c3, c4, c5, hl⟩ := HB4.out.all
    dsimp only at c0 c1 c2 c3 c4 c5
    have hbel := HB4.out.2
    go_wp2_with fail
    refine bodyPost_ret (v := .tuple #[.int .i64 (a * 65536 + b - 4294967296), .int .i64 0]) ?_ rfl ⟨by rw [HF.out], by (repeat (first | (with_reducible assumption) | (with_reducible exact Below.refl _ _) | ((with_reducible refine Below.setCell ?_ ?_ _); rotate_left; · (first | omega | (simp; done) | (simp; omega) | (simp at *; omega))) | ((with_reducible refine Below.alloc ?_ ?_ _); rotate_left; · (first | omega | (simp; done) | (simp; omega) | (simp at *; omega))) | (with_reducible refine Below.drew ?_) | (with_reducible refine below_drewN ?_ _) | ((refine Below.trans ?_ (Below.mono (by with_reducible assumption) ?_)); rotate_left; · (first | omega | (simp; done) | (simp; omega) | (simp at *; omega)))))⟩
    simp [results, Try.results14, go_sem]
    try omega
  · have HF := Lib.hid (show r = a * 65536 + b by rw [hr, if_neg ht])
    clear hr
    have t1 : decide (2147483648 ≤ a * 65536 + b) = false := decide_eq_false (by omega)
    have t2 : decide (4294967296 ≤ 2 * (a * 65536 + b)) = false := decide_eq_false (by omega)
    go_enter Try.func14, Try.ntmps14
    obtain ⟨c0, c1, c2, c3, c4, c5, hl⟩ := HB.out.all
    dsimp only at c0 c1 c2 c3 c4 c5
    go_wp2_with fail
    refine (rcheck_at (Sca.mk true true false mul div add) _ 0 HE.out).mono ?_
    rintro e w1 ⟨rfl, hb1⟩
    have HB2 := Lib.hid (show CB w w.heap.size (Sca.mk true true false mul div add) w1 from ⟨Blk.below HB.out.1 hb1 HB.out.1.lt, HB.out.2.trans (hb1.mono (by simp))⟩)
    clear c0 c1 c2 c3 c4 c5 hl hb1 HB
    obtain ⟨c0, c1, c2, c3, c4, c5, hl⟩ := HB2.out.all
    dsimp only at c0 c1 c2 c3 c4 c5
    have y0 := (HB2.out.2.cell (p := ⟨bb, off, none⟩) hbb).trans x0
    have y1 := (HB2.out.2.cell (p := ⟨bb, off + 1, none⟩) hbb).trans x1
    have hbel := HB2.out.2
    go_wp2_with fail
    refine (many_at (Sca.mk true true false mul div add) _ 4294967296 rfl).mono ?_
    rintro e w2 ⟨rfl, hb2⟩
    have HB3 := Lib.hid (show CB w w.heap.size (Sca.mk true true false mul div add) w2 from ⟨Blk.below HB2.out.1 hb2 HB2.out.1.lt, HB2.out.2.trans (hb2.mono HB2.out.2.size)⟩)
    clear c0 c1 c2 c3 c4 c5 hl hb2 HB2 hbel y0 y1
    obtain ⟨c0, c1, c2, c3, c4, c5, hl⟩ := HB3.out.all
    dsimp only at c0 c1 c2 c3 c4 c5
    have hbel := HB3.out.2
    go_wp2_with fail
    refine bodyPost_ret (v := .tuple #[.int .i64 (a * 65536 + b), .int .i64 0]) ?_ rfl ⟨by rw [HF.out], by (repeat (first | (with_reducible assumption) | (with_reducible exact Below.refl _ _) | ((with_reducible refine Below.setCell ?_ ?_ _); rotate_left; · (first | omega | (simp; done) | (simp; omega) | (simp at *; omega))) | ((with_reducible refine Below.alloc ?_ ?_ _); rotate_left; · (first | omega | (simp; done) | (simp; omega) | (simp at *; omega))) | (with_reducible refine Below.drew ?_) | (with_reducible refine below_drewN ?_ _) | ((refine Below.trans ?_ (Below.mono (by with_reducible assumption) ?_)); rotate_left; · (first | omega | (simp; done) | (simp; omega) | (simp at *; omega)))))⟩
    simp [results, Try.results14, go_sem]
    try omega

set_option maxHeartbeats 1000000 in
theorem rraw_TTF (mul div add a b : Int) (r : Int) (bb off cap : Nat) (w : World) (ho : (Sca.mk true false true mul div add).Ok) (hbb : bb < w.heap.size) (x0 : w.cell? ⟨bb, off, none⟩ = some (.int .u16 a)) (ha : U16 a) (x1 : w.cell? ⟨bb, off + 1, none⟩ = some (.int .u16 b)) (hb : U16 b) (hr : r = b * 65536 + a) :
    Calls Try.prog 14 #[.agg #[.bool true, .bool false, .bool true, .int .i64 mul, .int .i64 div, .int .i64 add], .slice (some ⟨bb, off, none⟩) 2 cap] w fun e w' => e = .returned (.tuple #[.int .i64 r, .int .i64 0]) ∧ Below w.heap.size w w' := by
  have HB := Lib.hid (show CB w w.heap.size (Sca.mk true false true mul div add) (w.alloc (.cells #[.bool true, .bool false, .bool true, .int .i64 mul, .int .i64 div, .int .i64 add] 23)) from ⟨Blk.new _ _ _, by (repeat (first | (with_reducible assumption) | (with_reducible exact Below.refl _ _) | ((with_reducible refine Below.setCell ?_ ?_ _); rotate_left; · (first | omega | (simp; done) | (simp; omega) | (simp at *; omega))) | ((with_reducible refine Below.alloc ?_ ?_ _); rotate_left; · (first | omega | (simp; done) | (simp; omega) | (simp at *; omega))) | (with_reducible refine Below.drew ?_) | (with_reducible refine below_drewN ?_ _) | ((refine Below.trans ?_ (Below.mono (by with_reducible assumption) ?_)); rotate_left; · (first | omega | (simp; done) | (simp; omega) | (simp at *; omega)))))⟩)
  have HE := Lib.hid (show (Sca.mk true false true mul div add).err = 0 from if_pos ho)
  clear ho
  obtain ⟨a0, a1⟩ := ha
  obtain ⟨b0, b1⟩ := hb
  have HF := Lib.hid hr
  clear hr
  go_enter Try.func14, Try.ntmps14
  obtain ⟨c0, c1, c2, c3, c4, c5, hl⟩ := HB.out.all
  dsimp only at c0 c1 c2 c3 c4 c5
  go_wp2_with fail
  refine (rcheck_at (Sca.mk true false true mul div add) _ 0 HE.out).mono ?_
  rintro e w1 ⟨rfl, hb1⟩
  have HB2 := Lib.hid (show CB w w.heap.size (Sca.mk true false true mul div add) w1 from ⟨Blk.below HB.out.1 hb1 HB.out.1.lt, HB.out.2.trans (hb1.mono (by simp))⟩)
  clear c0 c1 c2 c3 c4 c5 hl hb1 HB
  obtain ⟨c0, c1, c2, c3, c4, c5, hl⟩ := HB2.out.all
  dsimp only at c0 c1 c2 c3 c4 c5
  have y0 := (HB2.out.2.cell (p := ⟨bb, off, none⟩) hbb).trans x0
  have y1 := (HB2.out.2.cell (p := ⟨bb, off + 1, none⟩) hbb).trans x1
  have hbel := HB2.out.2
  go_wp2_with fail
  refine bodyPost_ret (v := .tuple #[.int .i64 (b * 65536 + a), .int .i64 0]) ?_ rfl ⟨by rw [HF.out], by (repeat (first | (with_reducible assumption) | (with_reducible exact Below.refl _ _) | ((with_reducible refine Below.setCell ?_ ?_ _); rotate_left; · (first | omega | (simp; done) | (simp; omega) | (simp at *; omega))) | ((with_reducible refine Below.alloc ?_ ?_ _); rotate_left; · (first | omega | (simp; done) | (simp; omega) | (simp at *; omega))) | (with_reducible refine Below.drew ?_) | (with_reducible refine below_drewN ?_ _) | ((refine Below.trans ?_ (Below.mono (by with_reducible assumption) ?_)); rotate_left; · (first | omega | (simp; done) | (simp; omega) | (simp at *; omega)))))⟩
  simp [results, Try.results14, go_sem]
  try omega

set_option maxHeartbeats 1000000 in
theorem rraw_TTT (mul div add a b : Int) (r : Int) (bb off cap : Nat) (w : World) (ho : (Sca.mk true true true mul div add).Ok) (hbb : bb < w.heap.size) (x0 : w.cell? ⟨bb, off, none⟩ = some (.int .u16 a)) (ha : U16 a) (x1 : w.cell? ⟨bb, off + 1, none⟩ = some (.int .u16 b)) (hb : U16 b) (hr : r = if 4294967296 ≤ 2 * (b * 65536 + a) then b * 65536 + a - 4294967296 else b * 65536 + a) :
    Calls Try.prog 14 #[.agg #[.bool true, .bool true, .bool true, .int .i64 mul, .int .i64 div, .int .i64 add], .slice (some ⟨bb, off, none⟩) 2 cap] w fun e w' => e = .returned (.tuple #[.int .i64 r, .int .i64 0]) ∧ Below w.heap.size w w' := by
  have HB := Lib.hid (show CB w w.heap.size (Sca.mk true true true mul div add) (w.alloc (.cells #[.bool true, .bool true, .bool true, .int .i64 mul, .int .i64 div, .int .i64 add] 23)) from ⟨Blk.new _ _ _, by (repeat (first | (with_reducible assumption) | (with_reducible exact Below.refl _ _) | ((with_reducible refine Below.setCell ?_ ?_ _); rotate_left; · (first | omega | (simp; done) | (simp; omega) | (simp at *; omega))) | ((with_reducible refine Below.alloc ?_ ?_ _); rotate_left; · (first | omega | (simp; done) | (simp; omega) | (simp at *; omega))) | (with_reducible refine Below.drew ?_) | (with_reducible refine below_drewN ?_ _) | ((refine Below.trans ?_ (Below.mono (by with_reducible assumption) ?_)); rotate_left; · (first | omega | (simp; done) | (simp; omega) | (simp at *; omega)))))⟩)
  have HE := Lib.hid (show (Sca.mk true true true mul div add).err = 0 from if_pos ho)
  clear ho
  obtain ⟨a0, a1⟩ := ha
  obtain ⟨b0, b1⟩ := hb
  by_cases ht : 4294967296 ≤ 2 * (b * 65536 + a)
  · have HF := Lib.hid (show r = b * 65536 + a - 4294967296 by rw [hr, if_pos ht])
    have t1 : 2147483648 ≤ b * 65536 + a := by omega
    clear hr
    go_enter Try.func14, Try.ntmps14
    obtain ⟨c0, c1, c2, c3, c4, c5, hl⟩ := HB.out.all
    dsimp only at c0 c1 c2 c3 c4 c5
    go_wp2_with fail
    refine (rcheck_at (Sca.mk true true true mul div add) _ 0 HE.out).mono ?_
    rintro e w1 ⟨rfl, hb1⟩
    have HB2 := Lib.hid (show CB w w.heap.size (Sca.mk true true true mul div add) w1 from ⟨Blk.below HB.out.1 hb1 HB.out.1.lt, HB.out.2.trans (hb1.mono (by simp))⟩)
    clear c0 c1 c2 c3 c4 c5 hl hb1 HB
    obtain ⟨c0, c1, c2, c3, c4, c5, hl⟩ := HB2.out.all
    dsimp only at c0 c1 c2 c3 c4 c5
    have y0 := (HB2.out.2.cell (p := ⟨bb, off, none⟩) hbb).trans x0
    have y1 := (HB2.out.2.cell (p := ⟨bb, off + 1, none⟩) hbb).trans x1
    have hbel := HB2.out.2
    go_wp2_with fail
    refine (many_at (Sca.mk true true true mul div add) _ 4294967296 rfl).mono ?_
    rintro e w2 ⟨rfl, hb2⟩
    have HB3 := Lib.hid (show CB w w.heap.size (Sca.mk true true true mul div add) w2 from ⟨Blk.below HB2.out.1 hb2 HB2.out.1.lt, HB2.out.2.trans (hb2.mono HB2.out.2.size)⟩)
    clear c0 c1 c2 c3 c4 c5 hl hb2 HB2 hbel y0 y1
    obtain ⟨c0, c1, c2, c3, c4, c5, hl⟩ := HB3.out.all
    dsimp only at c0 c1 c2 c3 c4 c5
    have hbel := HB3.out.2
    go_wp2_with fail
    refine (many_at (Sca.mk true true true mul div add) _ 4294967296 rfl).mono ?_
    rintro e w3 ⟨rfl, hb3⟩
    have HB4 := Lib.hid (show CB w w.heap.size (Sca.mk true true true mul div add) w3 from ⟨Blk.below HB3.out.1 hb3 HB3.out.1.lt, HB3.out.2.trans (hb3.mono HB3.out.2.size)⟩)
    clear c0 c1 c2 c3 c4 c5 hl hb3 HB3 hbel
    obtain ⟨c0, c1, c2, c3, c4, c5, hl⟩ := HB4.out.all
    dsimp only at c0 c1 c2 c3 c4 c5
    have hbel := HB4.out.2
    go_wp2_with fail
    refine bodyPost_ret (v := .tuple #[.int .i64 (b * 65536 + a - 4294967296), .int .i64 0]) ?_ rfl ⟨by rw [HF.out], by (repeat (first | (with_reducible assumption) | (with_reducible exact Below.refl _ _) | ((with_reducible refine Below.setCell ?_ ?_ _); rotate_left; · (first | omega | (simp; done) | (simp; omega) | (simp at *; omega))) | ((with_reducible refine Below.alloc ?_ ?_ _); rotate_left; · (first | omega | (simp; done) | (simp; omega) | (simp at *; omega))) | (with_reducible refine Below.drew ?_) | (with_reducible refine below_drewN ?_ _) | ((refine Below.trans ?_ (Below.mono (by with_reducible assumption) ?_)); rotate_left; · (first | omega | (simp; done) | (simp; omega) | (simp at *; omega)))))⟩
    simp [results, Try.results14, go_sem]
    try omega
  · have HF := Lib.hid (show r = b * 65536 + a by rw [hr, if_neg ht])
    clear hr
    have t1 : decide (2147483648 ≤ b * 65536 + a) = false := decide_eq_false (by omega)
    have t2 : decide (4294967296 ≤ 2 * (b * 65536 + a)) = false := decide_eq_false (by omega)
    go_enter Try.func14, Try.ntmps14
    obtain ⟨c0, c1, c2, c3, c4, c5, hl⟩ := HB.out.all
    dsimp only at c0 c1 c2 c3 c4 c5
    go_wp2_with fail
    refine (rcheck_at (Sca.mk true true true mul div add) _ 0 HE.out).mono ?_
    rintro e w1 ⟨rfl, hb1⟩
    have HB2 := Lib.hid (show CB w w.heap.size (Sca.mk true true true mul div add) w1 from ⟨Blk.below HB.out.1 hb1 HB.out.1.lt, HB.out.2.trans (hb1.mono (by simp))⟩)
    clear c0 c1 c2 c3 c4 c5 hl hb1 HB
    obtain ⟨c0, c1, c2, c3, c4, c5, hl⟩ := HB2.out.all
    dsimp only at c0 c1 c2 c3 c4 c5
    have y0 := (HB2.out.2.cell (p := ⟨bb, off, none⟩) hbb).trans x0
    have y1 := (HB2.out.2.cell (p := ⟨bb, off + 1, none⟩) hbb).trans x1
    have hbel := HB2.out.2
    go_wp2_with fail
    refine (many_at (Sca.mk true true true mul div add) _ 4294967296 rfl).mono ?_
    rintro e w2 ⟨rfl, hb2⟩
    have HB3 := Lib.hid (show CB w w.heap.size (Sca.mk true true true mul div add) w2 from ⟨Blk.below HB2.out.1 hb2 HB2.out.1.lt, HB2.out.2.trans (hb2.mono HB2.out.2.size)⟩)
    clear c0 c1 c2 c3 c4 c5 hl hb2 HB2 hbel y0 y1
    obtain ⟨c0, c1, c2, c3, c4, c5, hl⟩ := HB3.out.all
    dsimp only at c0 c1 c2 c3 c4 c5
    have hbel := HB3.out.2
    go_wp2_with fail
    refine bodyPost_ret (v := .tuple #[.int .i64 (b * 65536 + a), .int .i64 0]) ?_ rfl ⟨by rw [HF.out], by (repeat (first | (with_reducible assumption) | (with_reducible exact Below.refl _ _) | ((with_reducible refine Below.setCell ?_ ?_ _); rotate_left; · (first | omega | (simp; done) | (simp; omega) | (simp at *; omega))) | ((with_reducible refine Below.alloc ?_ ?_ _); rotate_left; · (first | omega | (simp; done) | (simp; omega) | (simp at *; omega))) | (with_reducible refine Below.drew ?_) | (with_reducible refine below_drewN ?_ _) | ((refine Below.trans ?_ (Below.mono (by with_reducible assumption) ?_)); rotate_left; · (first | omega | (simp; done) | (simp; omega) | (simp at *; omega)))))⟩
    simp [results, Try.results14, go_sem]
    try omega
end Go.Proofs.Ytbfdecfdmigoiaa
