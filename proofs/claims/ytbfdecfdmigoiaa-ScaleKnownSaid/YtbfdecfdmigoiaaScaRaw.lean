/-
  What is proved here: what Raw of package scale answers (chapter 6). Conditions: the words are words.
-/
import Derived.Test.YtbfdecfdmigoiaaScaRValue
namespace Go.Proofs.Ytbfdecfdmigoiaa
open Go.RowKit Go.Deep

def rawN (swap wide : Bool) (a b : Int) : Int := if swap = true then b * 65536 + a else if wide = true then a * 65536 + b else a
def Sca.many (s : Sca) : Int := if s.wide = true then 4294967296 else 65536
def Sca.need (s : Sca) : Nat := if s.wide = true then 2 else 1
def rawTo (s : Sca) (L : List Int) : Int × Int :=
  if ¬ s.Ok then (0, 25) else if L.length ≠ s.need then (0, 22) else
    if s.signed = true ∧ s.many ≤ 2 * rawN s.swap s.wide (L.getD 0 0) (L.getD 1 0) then (rawN s.swap s.wide (L.getD 0 0) (L.getD 1 0) - s.many, 0) else (rawN s.swap s.wide (L.getD 0 0) (L.getD 1 0), 0)
theorem rawTo_bad {s : Sca} {L : List Int} (h : ¬ s.Ok) : rawTo s L = (0, 25) := if_pos h
theorem rawTo_len {s : Sca} {L : List Int} (h : s.Ok) (hn : L.length ≠ s.need) : rawTo s L = (0, 22) := by unfold rawTo; rw [if_neg (by simp [h]), if_pos hn]
theorem rawTo_right {s : Sca} {L : List Int} (h : s.Ok) (hn : L.length = s.need) : rawTo s L = (if s.signed = true ∧ s.many ≤ 2 * rawN s.swap s.wide (L.getD 0 0) (L.getD 1 0) then rawN s.swap s.wide (L.getD 0 0) (L.getD 1 0) - s.many else rawN s.swap s.wide (L.getD 0 0) (L.getD 1 0), 0) := by
  unfold rawTo; rw [if_neg (by simp [h]), if_neg (by simp [hn])]
  split <;> rfl
def U16 (x : Int) : Prop := 0 ≤ x ∧ x ≤ 65535
def RawBack (s : Sca) (L : List Int) (w : World) (e : Ending) (w' : World) : Prop := e = .returned (.tuple #[.int .i64 (rawTo s L).1, .int .i64 (rawTo s L).2]) ∧ Below w.heap.size w w'
theorem span_at (s : Sca) (w : World) (n : Int) (h : s.many = n) : Calls Try.prog 24 #[.agg #[.bool s.wide, .bool s.signed, .bool s.swap, .int .i64 s.mul, .int .i64 s.div, .int .i64 s.add]] w fun e w' => e = .returned (.int .i64 n) ∧ Below w.heap.size w w' := by
  subst h
  exact span_any s w
theorem many_at (s : Sca) (w : World) (n : Int) (h : s.many = n) : Calls Try.prog 25 #[.agg #[.bool s.wide, .bool s.signed, .bool s.swap, .int .i64 s.mul, .int .i64 s.div, .int .i64 s.add]] w fun e w' => e = .returned (.int .i64 n) ∧ Below w.heap.size w w' := by
  subst h
  exact many_any s w

set_option maxHeartbeats 1000000 in
theorem raw_FFF (mul div add a : Int) (r : Int) (bb off cap : Nat) (w : World) (ho : (Sca.mk false false false mul div add).Ok) (hbb : bb < w.heap.size) (x0 : w.cell? ⟨bb, off, none⟩ = some (.int .u16 a)) (ha : U16 a) (hr : r = a) :
    Calls Try.prog 13 #[.agg #[.bool false, .bool false, .bool false, .int .i64 mul, .int .i64 div, .int .i64 add], .slice (some ⟨bb, off, none⟩) 1 cap] w fun e w' => e = .returned (.tuple #[.int .i64 r, .int .i64 0]) ∧ Below w.heap.size w w' := by
  have HB := Lib.hid (show CB w w.heap.size (Sca.mk false false false mul div add) (w.alloc (.cells #[.bool false, .bool false, .bool false, .int .i64 mul, .int .i64 div, .int .i64 add] 23)) from ⟨Blk.new _ _ _, by (repeat (first | (with_reducible assumption) | (with_reducible exact Below.refl _ _) | ((with_reducible refine Below.setCell ?_ ?_ _); rotate_left; · (first | omega | (simp; done) | (simp; omega) | (simp at *; omega))) | ((with_reducible refine Below.alloc ?_ ?_ _); rotate_left; · (first | omega | (simp; done) | (simp; omega) | (simp at *; omega))) | (with_reducible refine Below.drew ?_) | (with_reducible refine below_drewN ?_ _) | ((refine Below.trans ?_ (Below.mono (by with_reducible assumption) ?_)); rotate_left; · (first | omega | (simp; done) | (simp; omega) | (simp at *; omega)))))⟩)
  have HE := Lib.hid (show (Sca.mk false false false mul div add).err = 0 from if_pos ho)
  clear ho
  obtain ⟨a0, a1⟩ := ha
  have HF := Lib.hid hr
  clear hr
  go_enter Try.func13, Try.ntmps13
  obtain ⟨c0, c1, c2, c3, c4, c5, hl⟩ := HB.out.all
  dsimp only at c0 c1 c2 c3 c4 c5
  go_wp2_with fail
  refine (check_at (Sca.mk false false false mul div add) _ 0 HE.out).mono ?_
  rintro e w1 ⟨rfl, hb1⟩
  have HB2 := Lib.hid (show CB w w.heap.size (Sca.mk false false false mul div add) w1 from ⟨Blk.below HB.out.1 hb1 HB.out.1.lt, HB.out.2.trans (hb1.mono (by simp))⟩)
  clear c0 c1 c2 c3 c4 c5 hl hb1 HB
  obtain ⟨c0, c1, c2, c3, c4, c5, hl⟩ := HB2.out.all
  dsimp only at c0 c1 c2 c3 c4 c5
  have y0 := (HB2.out.2.cell (p := ⟨bb, off, none⟩) hbb).trans x0
  have hbel := HB2.out.2
  go_wp2_with fail
  refine bodyPost_ret (v := .tuple #[.int .i64 (a), .int .i64 0]) ?_ rfl ⟨by rw [HF.out], by (repeat (first | (with_reducible assumption) | (with_reducible exact Below.refl _ _) | ((with_reducible refine Below.setCell ?_ ?_ _); rotate_left; · (first | omega | (simp; done) | (simp; omega) | (simp at *; omega))) | ((with_reducible refine Below.alloc ?_ ?_ _); rotate_left; · (first | omega | (simp; done) | (simp; omega) | (simp at *; omega))) | (with_reducible refine Below.drew ?_) | (with_reducible refine below_drewN ?_ _) | ((refine Below.trans ?_ (Below.mono (by with_reducible assumption) ?_)); rotate_left; · (first | omega | (simp; done) | (simp; omega) | (simp at *; omega)))))⟩
  simp [results, Try.results13, go_sem]

set_option maxHeartbeats 1000000 in
theorem raw_FFT (mul div add a : Int) (r : Int) (bb off cap : Nat) (w : World) (ho : (Sca.mk false true false mul div add).Ok) (hbb : bb < w.heap.size) (x0 : w.cell? ⟨bb, off, none⟩ = some (.int .u16 a)) (ha : U16 a) (hr : r = if 65536 ≤ 2 * (a) then a - 65536 else a) :
    Calls Try.prog 13 #[.agg #[.bool false, .bool true, .bool false, .int .i64 mul, .int .i64 div, .int .i64 add], .slice (some ⟨bb, off, none⟩) 1 cap] w fun e w' => e = .returned (.tuple #[.int .i64 r, .int .i64 0]) ∧ Below w.heap.size w w' := by
  have HB := Lib.hid (show CB w w.heap.size (Sca.mk false true false mul div add) (w.alloc (.cells #[.bool false, .bool true, .bool false, .int .i64 mul, .int .i64 div, .int .i64 add] 23)) from ⟨Blk.new _ _ _, by (repeat (first | (with_reducible assumption) | (with_reducible exact Below.refl _ _) | ((with_reducible refine Below.setCell ?_ ?_ _); rotate_left; · (first | omega | (simp; done) | (simp; omega) | (simp at *; omega))) | ((with_reducible refine Below.alloc ?_ ?_ _); rotate_left; · (first | omega | (simp; done) | (simp; omega) | (simp at *; omega))) | (with_reducible refine Below.drew ?_) | (with_reducible refine below_drewN ?_ _) | ((refine Below.trans ?_ (Below.mono (by with_reducible assumption) ?_)); rotate_left; · (first | omega | (simp; done) | (simp; omega) | (simp at *; omega)))))⟩)
  have HE := Lib.hid (show (Sca.mk false true false mul div add).err = 0 from if_pos ho)
  clear ho
  obtain ⟨a0, a1⟩ := ha
  by_cases ht : 65536 ≤ 2 * (a)
  · have HF := Lib.hid (show r = a - 65536 by rw [hr, if_pos ht])
    have t1 : 32768 ≤ a := by omega
    clear hr
    go_enter Try.func13, Try.ntmps13
    obtain ⟨c0, c1, c2, c3, c4, c5, hl⟩ := HB.out.all
    dsimp only at c0 c1 c2 c3 c4 c5
    go_wp2_with fail
    refine (check_at (Sca.mk false true false mul div add) _ 0 HE.out).mono ?_
    rintro e w1 ⟨rfl, hb1⟩
    have HB2 := Lib.hid (show CB w w.heap.size (Sca.mk false true false mul div add) w1 from ⟨Blk.below HB.out.1 hb1 HB.out.1.lt, HB.out.2.trans (hb1.mono (by simp))⟩)
    clear c0 c1 c2 c3 c4 c5 hl hb1 HB
    obtain ⟨c0, c1, c2, c3, c4, c5, hl⟩ := HB2.out.all
    dsimp only at c0 c1 c2 c3 c4 c5
    have y0 := (HB2.out.2.cell (p := ⟨bb, off, none⟩) hbb).trans x0
    have hbel := HB2.out.2
    go_wp2_with fail
    refine (span_at (Sca.mk false true false mul div add) _ 65536 rfl).mono ?_
    rintro e w2 ⟨rfl, hb2⟩
    have HB3 := Lib.hid (show CB w w.heap.size (Sca.mk false true false mul div add) w2 from ⟨Blk.below HB2.out.1 hb2 HB2.out.1.lt, HB2.out.2.trans (hb2.mono HB2.out.2.size)⟩)
    clear c0 c1 c2 c3 c4 c5 hl hb2 HB2 hbel y0
    obtain ⟨c0, c1, c2, c3, c4, c5, hl⟩ := HB3.out.all
    dsimp only at c0 c1 c2 c3 c4 c5
    have hbel := HB3.out.2
    go_wp2_with fail
    refine (span_at (Sca.mk false true false mul div add) _ 65536 rfl).mono ?_
    rintro e w3 ⟨rfl, hb3⟩
    have HB4 := Lib.hid (show CB w w.heap.size (Sca.mk false true false mul div add) w3 from ⟨Blk.below HB3.out.1 hb3 HB3.out.1.lt, HB3.out.2.trans (hb3.mono HB3.out.2.size)⟩)
    clear c0 c1 c2 c3 c4 c5 hl hb3 HB3 hbel
    obtain ⟨c0, c1, c2, c3, c4, c5, hl⟩ := HB4.out.all
    dsimp only at c0 c1 c2 c3 c4 c5
    have hbel := HB4.out.2
    go_wp2_with fail
    refine bodyPost_ret (v := .tuple #[.int .i64 (a - 65536), .int .i64 0]) ?_ rfl ⟨by rw [HF.out], by (repeat (first | (with_reducible assumption) | (with_reducible exact Below.refl _ _) | ((with_reducible refine Below.setCell ?_ ?_ _); rotate_left; · (first | omega | (simp; done) | (simp; omega) | (simp at *; omega))) | ((with_reducible refine Below.alloc ?_ ?_ _); rotate_left; · (first | omega | (simp; done) | (simp; omega) | (simp at *; omega))) | (with_reducible refine Below.drew ?_) | (with_reducible refine below_drewN ?_ _) | ((refine Below.trans ?_ (Below.mono (by with_reducible assumption) ?_)); rotate_left; · (first | omega | (simp; done) | (simp; omega) | (simp at *; omega)))))⟩
    simp [results, Try.results13, go_sem]
  · have HF := Lib.hid (show r = a by rw [hr, if_neg ht])
    clear hr
    have t1 : decide (32768 ≤ a) = false := decide_eq_false (by omega)
    have t2 : decide (65536 ≤ 2 * (a)) = false := decide_eq_false (by omega)
    go_enter Try.func13, Try.ntmps13
    obtain ⟨c0, c1, c2, c3, c4, c5, hl⟩ := HB.out.all
    dsimp only at c0 c1 c2 c3 c4 c5
    go_wp2_with fail
    refine (check_at (Sca.mk false true false mul div add) _ 0 HE.out).mono ?_
    rintro e w1 ⟨rfl, hb1⟩
    have HB2 := Lib.hid (show CB w w.heap.size (Sca.mk false true false mul div add) w1 from ⟨Blk.below HB.out.1 hb1 HB.out.1.lt, HB.out.2.trans (hb1.mono (by simp))⟩)
    clear c0 c1 c2 c3 c4 c5 hl hb1 HB
    obtain ⟨c0, c1, c2, c3, c4, c5, hl⟩ := HB2.out.all
    dsimp only at c0 c1 c2 c3 c4 c5
    have y0 := (HB2.out.2.cell (p := ⟨bb, off, none⟩) hbb).trans x0
    have hbel := HB2.out.2
    go_wp2_with fail
    refine (span_at (Sca.mk false true false mul div add) _ 65536 rfl).mono ?_
    rintro e w2 ⟨rfl, hb2⟩
    have HB3 := Lib.hid (show CB w w.heap.size (Sca.mk false true false mul div add) w2 from ⟨Blk.below HB2.out.1 hb2 HB2.out.1.lt, HB2.out.2.trans (hb2.mono HB2.out.2.size)⟩)
    clear c0 c1 c2 c3 c4 c5 hl hb2 HB2 hbel y0
    obtain ⟨c0, c1, c2, c3, c4, c5, hl⟩ := HB3.out.all
    dsimp only at c0 c1 c2 c3 c4 c5
    have hbel := HB3.out.2
    go_wp2_with fail
    refine bodyPost_ret (v := .tuple #[.int .i64 (a), .int .i64 0]) ?_ rfl ⟨by rw [HF.out], by (repeat (first | (with_reducible assumption) | (with_reducible exact Below.refl _ _) | ((with_reducible refine Below.setCell ?_ ?_ _); rotate_left; · (first | omega | (simp; done) | (simp; omega) | (simp at *; omega))) | ((with_reducible refine Below.alloc ?_ ?_ _); rotate_left; · (first | omega | (simp; done) | (simp; omega) | (simp at *; omega))) | (with_reducible refine Below.drew ?_) | (with_reducible refine below_drewN ?_ _) | ((refine Below.trans ?_ (Below.mono (by with_reducible assumption) ?_)); rotate_left; · (first | omega | (simp; done) | (simp; omega) | (simp at *; omega)))))⟩
    simp [results, Try.results13, go_sem]

set_option maxHeartbeats 1000000 in
theorem raw_TFF (mul div add a b : Int) (r : Int) (bb off cap : Nat) (w : World) (ho : (Sca.mk true false false mul div add).Ok) (hbb : bb < w.heap.size) (x0 : w.cell? ⟨bb, off, none⟩ = some (.int .u16 a)) (ha : U16 a) (x1 : w.cell? ⟨bb, off + 1, none⟩ = some (.int .u16 b)) (hb : U16 b) (hr : r = a * 65536 + b) :
    Calls Try.prog 13 #[.agg #[.bool true, .bool false, .bool false, .int .i64 mul, .int .i64 div, .int .i64 add], .slice (some ⟨bb, off, none⟩) 2 cap] w fun e w' => e = .returned (.tuple #[.int .i64 r, .int .i64 0]) ∧ Below w.heap.size w w' := by
  have HB := Lib.hid (show CB w w.heap.size (Sca.mk true false false mul div add) (w.alloc (.cells #[.bool true, .bool false, .bool false, .int .i64 mul, .int .i64 div, .int .i64 add] 23)) from ⟨Blk.new _ _ _, by (repeat (first | (with_reducible assumption) | (with_reducible exact Below.refl _ _) | ((with_reducible refine Below.setCell ?_ ?_ _); rotate_left; · (first | omega | (simp; done) | (simp; omega) | (simp at *; omega))) | ((with_reducible refine Below.alloc ?_ ?_ _); rotate_left; · (first | omega | (simp; done) | (simp; omega) | (simp at *; omega))) | (with_reducible refine Below.drew ?_) | (with_reducible refine below_drewN ?_ _) | ((refine Below.trans ?_ (Below.mono (by with_reducible assumption) ?_)); rotate_left; · (first | omega | (simp; done) | (simp; omega) | (simp at *; omega)))))⟩)
  have HE := Lib.hid (show (Sca.mk true false false mul div add).err = 0 from if_pos ho)
  clear ho
  obtain ⟨a0, a1⟩ := ha
  obtain ⟨b0, b1⟩ := hb
  have HF := Lib.hid hr
  clear hr
  go_enter Try.func13, Try.ntmps13
  obtain ⟨c0, c1, c2, c3, c4, c5, hl⟩ := HB.out.all
  dsimp only at c0 c1 c2 c3 c4 c5
  go_wp2_with fail
  refine (check_at (Sca.mk true false false mul div add) _ 0 HE.out).mono ?_
  rintro e w1 ⟨rfl, hb1⟩
  have HB2 := Lib.hid (show CB w w.heap.size (Sca.mk true false false mul div add) w1 from ⟨Blk.below HB.out.1 hb1 HB.out.1.lt, HB.out.2.trans (hb1.mono (by simp))⟩)
  clear c0 c1 c2 c3 c4 c5 hl hb1 HB
  obtain ⟨c0, c1, c2, c3, c4, c5, hl⟩ := HB2.out.all
  dsimp only at c0 c1 c2 c3 c4 c5
  have y0 := (HB2.out.2.cell (p := ⟨bb, off, none⟩) hbb).trans x0
  have y1 := (HB2.out.2.cell (p := ⟨bb, off + 1, none⟩) hbb).trans x1
  have hbel := HB2.out.2
  go_wp2_with fail
  refine bodyPost_ret (v := .tuple #[.int .i64 (a * 65536 + b), .int .i64 0]) ?_ rfl ⟨by rw [HF.out], by (repeat (first | (with_reducible assumption) | (with_reducible exact Below.refl _ _) | ((with_reducible refine Below.setCell ?_ ?_ _); rotate_left; · (first | omega | (simp; done) | (simp; omega) | (simp at *; omega))) | ((with_reducible refine Below.alloc ?_ ?_ _); rotate_left; · (first | omega | (simp; done) | (simp; omega) | (simp at *; omega))) | (with_reducible refine Below.drew ?_) | (with_reducible refine below_drewN ?_ _) | ((refine Below.trans ?_ (Below.mono (by with_reducible assumption) ?_)); rotate_left; · (first | omega | (simp; done) | (simp; omega) | (simp at *; omega)))))⟩
  simp [results, Try.results13, go_sem]
  try omega

set_option maxHeartbeats 1000000 in
theorem raw_TFT (mul div add a b : Int) (r : Int) (bb off cap : Nat) (w : World) (ho : (Sca.mk true true false mul div add).Ok) (hbb : bb < w.heap.size) (x0 : w.cell? ⟨bb, off, none⟩ = some (.int .u16 a)) (ha : U16 a) (x1 : w.cell? ⟨bb, off + 1, none⟩ = some (.int .u16 b)) (hb : U16 b) (hr : r = if 4294967296 ≤ 2 * (a * 65536 + b) then a * 65536 + b - 4294967296 else a * 65536 + b) :
    Calls Try.prog 13 #[.agg #[.bool true, .bool true, .bool false, .int .i64 mul, .int .i64 div, .int .i64 add], .slice (some ⟨bb, off, none⟩) 2 cap] w fun e w' => e = .returned (.tuple #[.int .i64 r, .int .i64 0]) ∧ Below w.heap.size w w' := by
  have HB := Lib.hid (show CB w w.heap.size (Sca.mk true true false mul div add) (w.alloc (.cells #[.bool true, .bool true, .bool false, .int .i64 mul, .int .i64 div, .int .i64 add] 23)) from ⟨Blk.new _ _ _, by (repeat (first | (with_reducible assumption) | (with_reducible exact Below.refl _ _) | ((with_reducible refine Below.setCell ?_ ?_ _); rotate_left; · (first | omega | (simp; done) | (simp; omega) | (simp at *; omega))) | ((with_reducible refine Below.alloc ?_ ?_ _); rotate_left; · (first | omega | (simp; done) | (simp; omega) | (simp at *; omega))) | (with_reducible refine Below.drew ?_) | (with_reducible refine below_drewN ?_ _) | ((refine Below.trans ?_ (Below.mono (by with_reducible assumption) ?_)); rotate_left; · (first | omega | (simp; done) | (simp; omega) | (simp at *; omega)))))⟩)
  have HE := Lib.hid (show (Sca.mk true true false mul div add).err = 0 from if_pos ho)
  clear ho
  obtain ⟨a0, a1⟩ := ha
  obtain ⟨b0, b1⟩ := hb
  by_cases ht : 4294967296 ≤ 2 * (a * 65536 + b)
  · have HF := Lib.hid (show r = a * 65536 + b - 4294967296 by rw [hr, if_pos ht])
    have t1 : 2147483648 ≤ a * 65536 + b := by omega
    clear hr
    go_enter Try.func13, Try.ntmps13
    obtain ⟨c0, c1, c2, c3, c4, c5, hl⟩ := HB.out.all
    dsimp only at c0 c1 c2 c3 c4 c5
    go_wp2_with fail
    refine (check_at (Sca.mk true true false mul div add) _ 0 HE.out).mono ?_
    rintro e w1 ⟨rfl, hb1⟩
    have HB2 := Lib.hid (show CB w w.heap.size (Sca.mk true true false mul div add) w1 from ⟨Blk.below HB.out.1 hb1 HB.out.1.lt, HB.out.2.trans (hb1.mono (by simp))⟩)
    clear c0 c1 c2 c3 c4 c5 hl hb1 HB
    obtain ⟨c0, c1, c2, c3, c4, c5, hl⟩ := HB2.out.all
    dsimp only at c0 c1 c2 c3 c4 c5
    have y0 := (HB2.out.2.cell (p := ⟨bb, off, none⟩) hbb).trans x0
    have y1 := (HB2.out.2.cell (p := ⟨bb, off + 1, none⟩) hbb).trans x1
    have hbel := HB2.out.2
    go_wp2_with fail
    refine (span_at (Sca.mk true true false mul div add) _ 4294967296 rfl).mono ?_
    rintro e w2 ⟨rfl, hb2⟩
    have HB3 := Lib.hid (show CB w w.heap.size (Sca.mk true true false mul div add) w2 from ⟨Blk.below HB2.out.1 hb2 HB2.out.1.lt, HB2.out.2.trans (hb2.mono HB2.out.2.size)⟩)
    clear c0 c1 c2 c3 c4 c5 hl hb2 HB2 hbel y0 y1
    obtain ⟨c0, c1, c2, c3, c4, c5, hl⟩ := HB3.out.all
    dsimp only at c0 c1 c2 c3 c4 c5
    have hbel := HB3.out.2
    go_wp2_with fail
    refine (span_at (Sca.mk true true false mul div add) _ 4294967296 rfl).mono ?_
    rintro e w3 ⟨rfl, hb3⟩
    have HB4 := Lib.hid (show CB w w.heap.size (Sca.mk true true false mul div add) w3 from ⟨Blk.below HB3.out.1 hb3 HB3.out.1.lt, HB3.out.2.trans (hb3.mono HB3.out.2.size)⟩)
    clear c0 c1 c2 c3 c4 c5 hl hb3 HB3 hbel
    obtain ⟨c0, c1, c2, c3, c4, c5, hl⟩ := HB4.out.all
    dsimp only at c0 c1 c2 c3 c4 c5
    have hbel := HB4.out.2
    go_wp2_with fail
    refine bodyPost_ret (v := .tuple #[.int .i64 (a * 65536 + b - 4294967296), .int .i64 0]) ?_ rfl ⟨by rw [HF.out], by (repeat (first | (with_reducible assumption) | (with_reducible exact Below.refl _ _) | ((with_reducible refine Below.setCell ?_ ?_ _); rotate_left; · (first | omega | (simp; done) | (simp; omega) | (simp at *; omega))) | ((with_reducible refine Below.alloc ?_ ?_ _); rotate_left; · (first | omega | (simp; done) | (simp; omega) | (simp at *; omega))) | (with_reducible refine Below.drew ?_) | (with_reducible refine below_drewN ?_ _) | ((refine Below.trans ?_ (Below.mono (by with_reducible assumption) ?_)); rotate_left; · (first | omega | (simp; done) | (simp; omega) | (simp at *; omega)))))⟩
    simp [results, Try.results13, go_sem]
    try omega
  · have HF := Lib.hid (show r = a * 65536 + b by rw [hr, if_neg ht])
    clear hr
    have t1 : decide (2147483648 ≤ a * 65536 + b) = false := decide_eq_false (by omega)
    have t2 : decide (4294967296 ≤ 2 * (a * 65536 + b)) = false := decide_eq_false (by omega)
    go_enter Try.func13, Try.ntmps13
    obtain ⟨c0, c1, c2, c3, c4, c5, hl⟩ := HB.out.all
    dsimp only at c0 c1 c2 c3 c4 c5
    go_wp2_with fail
    refine (check_at (Sca.mk true true false mul div add) _ 0 HE.out).mono ?_
    rintro e w1 ⟨rfl, hb1⟩
    have HB2 := Lib.hid (show CB w w.heap.size (Sca.mk true true false mul div add) w1 from ⟨Blk.below HB.out.1 hb1 HB.out.1.lt, HB.out.2.trans (hb1.mono (by simp))⟩)
    clear c0 c1 c2 c3 c4 c5 hl hb1 HB
    obtain ⟨c0, c1, c2, c3, c4, c5, hl⟩ := HB2.out.all
    dsimp only at c0 c1 c2 c3 c4 c5
    have y0 := (HB2.out.2.cell (p := ⟨bb, off, none⟩) hbb).trans x0
    have y1 := (HB2.out.2.cell (p := ⟨bb, off + 1, none⟩) hbb).trans x1
    have hbel := HB2.out.2
    go_wp2_with fail
    refine (span_at (Sca.mk true true false mul div add) _ 4294967296 rfl).mono ?_
    rintro e w2 ⟨rfl, hb2⟩
    have HB3 := Lib.hid (show CB w w.heap.size (Sca.mk true true false mul div add) w2 from ⟨Blk.below HB2.out.1 hb2 HB2.out.1.lt, HB2.out.2.trans (hb2.mono HB2.out.2.size)⟩)
    clear c0 c1 c2 c3 c4 c5 hl hb2 HB2 hbel y0 y1
    obtain ⟨c0, c1, c2, c3, c4, c5, hl⟩ := HB3.out.all
    dsimp only at c0 c1 c2 c3 c4 c5
    have hbel := HB3.out.2
    go_wp2_with fail
    refine bodyPost_ret (v := .tuple #[.int .i64 (a * 65536 + b), .int .i64 0]) ?_ rfl ⟨by rw [HF.out], by (repeat (first | (with_reducible assumption) | (with_reducible exact Below.refl _ _) | ((with_reducible refine Below.setCell ?_ ?_ _); rotate_left; · (first | omega | (simp; done) | (simp; omega) | (simp at *; omega))) | ((with_reducible refine Below.alloc ?_ ?_ _); rotate_left; · (first | omega | (simp; done) | (simp; omega) | (simp at *; omega))) | (with_reducible refine Below.drew ?_) | (with_reducible refine below_drewN ?_ _) | ((refine Below.trans ?_ (Below.mono (by with_reducible assumption) ?_)); rotate_left; · (first | omega | (simp; done) | (simp; omega) | (simp at *; omega)))))⟩
    simp [results, Try.results13, go_sem]
    try omega

set_option maxHeartbeats 1000000 in
theorem raw_TTF (mul div add a b : Int) (r : Int) (bb off cap : Nat) (w : World) (ho : (Sca.mk true false true mul div add).Ok) (hbb : bb < w.heap.size) (x0 : w.cell? ⟨bb, off, none⟩ = some (.int .u16 a)) (ha : U16 a) (x1 : w.cell? ⟨bb, off + 1, none⟩ = some (.int .u16 b)) (hb : U16 b) (hr : r = b * 65536 + a) :
    Calls Try.prog 13 #[.agg #[.bool true, .bool false, .bool true, .int .i64 mul, .int .i64 div, .int .i64 add], .slice (some ⟨bb, off, none⟩) 2 cap] w fun e w' => e = .returned (.tuple #[.int .i64 r, .int .i64 0]) ∧ Below w.heap.size w w' := by
  have HB := Lib.hid (show CB w w.heap.size (Sca.mk true false true mul div add) (w.alloc (.cells #[.bool true, .bool false, .bool true, .int .i64 mul, .int .i64 div, .int .i64 add] 23)) from ⟨Blk.new _ _ _, by (repeat (first | (with_reducible assumption) | (with_reducible exact Below.refl _ _) | ((with_reducible refine Below.setCell ?_ ?_ _); rotate_left; · (first | omega | (simp; done) | (simp; omega) | (simp at *; omega))) | ((with_reducible refine Below.alloc ?_ ?_ _); rotate_left; · (first | omega | (simp; done) | (simp; omega) | (simp at *; omega))) | (with_reducible refine Below.drew ?_) | (with_reducible refine below_drewN ?_ _) | ((refine Below.trans ?_ (Below.mono (by with_reducible assumption) ?_)); rotate_left; · (first | omega | (simp; done) | (simp; omega) | (simp at *; omega)))))⟩)
  have HE := Lib.hid (show (Sca.mk true false true mul div add).err = 0 from if_pos ho)
  clear ho
  obtain ⟨a0, a1⟩ := ha
  obtain ⟨b0, b1⟩ := hb
  have HF := Lib.hid hr
  clear hr
  go_enter Try.func13, Try.ntmps13
  obtain ⟨c0, c1, c2, c3, c4, c5, hl⟩ := HB.out.all
  dsimp only at c0 c1 c2 c3 c4 c5
  go_wp2_with fail
  refine (check_at (Sca.mk true false true mul div add) _ 0 HE.out).mono ?_
  rintro e w1 ⟨rfl, hb1⟩
  have HB2 := Lib.hid (show CB w w.heap.size (Sca.mk true false true mul div add) w1 from ⟨Blk.below HB.out.1 hb1 HB.out.1.lt, HB.out.2.trans (hb1.mono (by simp))⟩)
  clear c0 c1 c2 c3 c4 c5 hl hb1 HB
  obtain ⟨c0, c1, c2, c3, c4, c5, hl⟩ := HB2.out.all
  dsimp only at c0 c1 c2 c3 c4 c5
  have y0 := (HB2.out.2.cell (p := ⟨bb, off, none⟩) hbb).trans x0
  have y1 := (HB2.out.2.cell (p := ⟨bb, off + 1, none⟩) hbb).trans x1
  have hbel := HB2.out.2
  go_wp2_with fail
  refine bodyPost_ret (v := .tuple #[.int .i64 (b * 65536 + a), .int .i64 0]) ?_ rfl ⟨by rw [HF.out], by (repeat (first | (with_reducible assumption) | (with_reducible exact Below.refl _ _) | ((with_reducible refine Below.setCell ?_ ?_ _); rotate_left; · (first | omega | (simp; done) | (simp; omega) | (simp at *; omega))) | ((with_reducible refine Below.alloc ?_ ?_ _); rotate_left; · (first | omega | (simp; done) | (simp; omega) | (simp at *; omega))) | (with_reducible refine Below.drew ?_) | (with_reducible refine below_drewN ?_ _) | ((refine Below.trans ?_ (Below.mono (by with_reducible assumption) ?_)); rotate_left; · (first | omega | (simp; done) | (simp; omega) | (simp at *; omega)))))⟩
  simp [results, Try.results13, go_sem]
  try omega

set_option maxHeartbeats 1000000 in
theorem raw_TTT (mul div add a b : Int) (r : Int) (bb off cap : Nat) (w : World) (ho : (Sca.mk true true true mul div add).Ok) (hbb : bb < w.heap.size) (x0 : w.cell? ⟨bb, off, none⟩ = some (.int .u16 a)) (ha : U16 a) (x1 : w.cell? ⟨bb, off + 1, none⟩ = some (.int .u16 b)) (hb : U16 b) (hr : r = if 4294967296 ≤ 2 * (b * 65536 + a) then b * 65536 + a - 4294967296 else b * 65536 + a) :
    Calls Try.prog 13 #[.agg #[.bool true, .bool true, .bool true, .int .i64 mul, .int .i64 div, .int .i64 add], .slice (some ⟨bb, off, none⟩) 2 cap] w fun e w' => e = .returned (.tuple #[.int .i64 r, .int .i64 0]) ∧ Below w.heap.size w w' := by
  have HB := Lib.hid (show CB w w.heap.size (Sca.mk true true true mul div add) (w.alloc (.cells #[.bool true, .bool true, .bool true, .int .i64 mul, .int .i64 div, .int .i64 add] 23)) from ⟨Blk.new _ _ _, by (repeat (first | (with_reducible assumption) | (with_reducible exact Below.refl _ _) | ((with_reducible refine Below.setCell ?_ ?_ _); rotate_left; · (first | omega | (simp; done) | (simp; omega) | (simp at *; omega))) | ((with_reducible refine Below.alloc ?_ ?_ _); rotate_left; · (first | omega | (simp; done) | (simp; omega) | (simp at *; omega))) | (with_reducible refine Below.drew ?_) | (with_reducible refine below_drewN ?_ _) | ((refine Below.trans ?_ (Below.mono (by with_reducible assumption) ?_)); rotate_left; · (first | omega | (simp; done) | (simp; omega) | (simp at *; omega)))))⟩)
  have HE := Lib.hid (show (Sca.mk true true true mul div add).err = 0 from if_pos ho)
  clear ho
  obtain ⟨a0, a1⟩ := ha
  obtain ⟨b0, b1⟩ := hb
  by_cases ht : 4294967296 ≤ 2 * (b * 65536 + a)
  · have HF := Lib.hid (show r = b * 65536 + a - 4294967296 by rw [hr, if_pos ht])
    have t1 : 2147483648 ≤ b * 65536 + a := by omega
    clear hr
    go_enter Try.func13, Try.ntmps13
    obtain ⟨c0, c1, c2, c3, c4, c5, hl⟩ := HB.out.all
    dsimp only at c0 c1 c2 c3 c4 c5
    go_wp2_with fail
    refine (check_at (Sca.mk true true true mul div add) _ 0 HE.out).mono ?_
    rintro e w1 ⟨rfl, hb1⟩
    have HB2 := Lib.hid (show CB w w.heap.size (Sca.mk true true true mul div add) w1 from ⟨Blk.below HB.out.1 hb1 HB.out.1.lt, HB.out.2.trans (hb1.mono (by simp))⟩)
    clear c0 c1 c2 c3 c4 c5 hl hb1 HB
    obtain ⟨c0, c1, c2, c3, c4, c5, hl⟩ := HB2.out.all
    dsimp only at c0 c1 c2 c3 c4 c5
    have y0 := (HB2.out.2.cell (p := ⟨bb, off, none⟩) hbb).trans x0
    have y1 := (HB2.out.2.cell (p := ⟨bb, off + 1, none⟩) hbb).trans x1
    have hbel := HB2.out.2
    go_wp2_with fail
    refine (span_at (Sca.mk true true true mul div add) _ 4294967296 rfl).mono ?_
    rintro e w2 ⟨rfl, hb2⟩
    have HB3 := Lib.hid (show CB w w.heap.size (Sca.mk true true true mul div add) w2 from ⟨Blk.below HB2.out.1 hb2 HB2.out.1.lt, HB2.out.2.trans (hb2.mono HB2.out.2.size)⟩)
    clear c0 c1 c2 c3 c4 c5 hl hb2 HB2 hbel y0 y1
    obtain ⟨c0, c1, c2, c3, c4, c5, hl⟩ := HB3.out.all
    dsimp only at c0 c1 c2 c3 c4 c5
    have hbel := HB3.out.2
    go_wp2_with fail
    refine (span_at (Sca.mk true true true mul div add) _ 4294967296 rfl).mono ?_
    rintro e w3 ⟨rfl, hb3⟩
    have HB4 := Lib.hid (show CB w w.heap.size (Sca.mk true true true mul div add) w3 from ⟨Blk.below HB3.out.1 hb3 HB3.out.1.lt, HB3.out.2.trans (hb3.mono HB3.out.2.size)⟩)
    clear c0 c1 c2 c3 c4 c5 hl hb3 HB3 hbel
    obtain ⟨c0, c1, c2, c3, c4, c5, hl⟩ := HB4.out.all
    dsimp only at c0 c1 c2 c3 c4 c5
    have hbel := HB4.out.2
    go_wp2_with fail
    refine bodyPost_ret (v := .tuple #[.int .i64 (b * 65536 + a - 4294967296), .int .i64 0]) ?_ rfl ⟨by rw [HF.out], by (repeat (first | (with_reducible assumption) | (with_reducible exact Below.refl _ _) | ((with_reducible refine Below.setCell ?_ ?_ _); rotate_left; · (first | omega | (simp; done) | (simp; omega) | (simp at *; omega))) | ((with_reducible refine Below.alloc ?_ ?_ _); rotate_left; · (first | omega | (simp; done) | (simp; omega) | (simp at *; omega))) | (with_reducible refine Below.drew ?_) | (with_reducible refine below_drewN ?_ _) | ((refine Below.trans ?_ (Below.mono (by with_reducible assumption) ?_)); rotate_left; · (first | omega | (simp; done) | (simp; omega) | (simp at *; omega)))))⟩
    simp [results, Try.results13, go_sem]
    try omega
  · have HF := Lib.hid (show r = b * 65536 + a by rw [hr, if_neg ht])
    clear hr
    have t1 : decide (2147483648 ≤ b * 65536 + a) = false := decide_eq_false (by omega)
    have t2 : decide (4294967296 ≤ 2 * (b * 65536 + a)) = false := decide_eq_false (by omega)
    go_enter Try.func13, Try.ntmps13
    obtain ⟨c0, c1, c2, c3, c4, c5, hl⟩ := HB.out.all
    dsimp only at c0 c1 c2 c3 c4 c5
    go_wp2_with fail
    refine (check_at (Sca.mk true true true mul div add) _ 0 HE.out).mono ?_
    rintro e w1 ⟨rfl, hb1⟩
    have HB2 := Lib.hid (show CB w w.heap.size (Sca.mk true true true mul div add) w1 from ⟨Blk.below HB.out.1 hb1 HB.out.1.lt, HB.out.2.trans (hb1.mono (by simp))⟩)
    clear c0 c1 c2 c3 c4 c5 hl hb1 HB
    obtain ⟨c0, c1, c2, c3, c4, c5, hl⟩ := HB2.out.all
    dsimp only at c0 c1 c2 c3 c4 c5
    have y0 := (HB2.out.2.cell (p := ⟨bb, off, none⟩) hbb).trans x0
    have y1 := (HB2.out.2.cell (p := ⟨bb, off + 1, none⟩) hbb).trans x1
    have hbel := HB2.out.2
    go_wp2_with fail
    refine (span_at (Sca.mk true true true mul div add) _ 4294967296 rfl).mono ?_
    rintro e w2 ⟨rfl, hb2⟩
    have HB3 := Lib.hid (show CB w w.heap.size (Sca.mk true true true mul div add) w2 from ⟨Blk.below HB2.out.1 hb2 HB2.out.1.lt, HB2.out.2.trans (hb2.mono HB2.out.2.size)⟩)
    clear c0 c1 c2 c3 c4 c5 hl hb2 HB2 hbel y0 y1
    obtain ⟨c0, c1, c2, c3, c4, c5, hl⟩ := HB3.out.all
    dsimp only at c0 c1 c2 c3 c4 c5
    have hbel := HB3.out.2
    go_wp2_with fail
    refine bodyPost_ret (v := .tuple #[.int .i64 (b * 65536 + a), .int .i64 0]) ?_ rfl ⟨by rw [HF.out], by (repeat (first | (with_reducible assumption) | (with_reducible exact Below.refl _ _) | ((with_reducible refine Below.setCell ?_ ?_ _); rotate_left; · (first | omega | (simp; done) | (simp; omega) | (simp at *; omega))) | ((with_reducible refine Below.alloc ?_ ?_ _); rotate_left; · (first | omega | (simp; done) | (simp; omega) | (simp at *; omega))) | (with_reducible refine Below.drew ?_) | (with_reducible refine below_drewN ?_ _) | ((refine Below.trans ?_ (Below.mono (by with_reducible assumption) ?_)); rotate_left; · (first | omega | (simp; done) | (simp; omega) | (simp at *; omega)))))⟩
    simp [results, Try.results13, go_sem]
    try omega
end Go.Proofs.Ytbfdecfdmigoiaa
