/-
  What is proved here: what Words of package scale, in the reference answers (chapter 6). Conditions: each theorem's own.
-/
import Derived.Test.YtbfdecfdmigoiaaScaWords
import Derived.Test.YtbfdecfdmigoiaaIntRow
import Derived.RegionTactic
import Derived.Deep.RegionHeld3
import Derived.BigRegion
import Derived.Deep.DeepCutAuto
namespace Go.Proofs.Ytbfdecfdmigoiaa
open Go.RowKit Go.Deep


set_option maxHeartbeats 1000000 in
theorem rwords_FFF (mul div add raw : Int) (w : World) (ho : (Sca.mk false false false mul div add).Ok) (h1 : 0 ≤ raw) (h2 : raw ≤ 65535) :
    Calls Try.prog 21 #[.agg #[.bool false, .bool false, .bool false, .int .i64 mul, .int .i64 div, .int .i64 add], .int .i64 raw] w (WordsBack ((Sca.mk false false false mul div add).list raw) 1 w) := by
  have HB := Lib.hid (show CB w w.heap.size (Sca.mk false false false mul div add) (w.alloc (.cells #[.bool false, .bool false, .bool false, .int .i64 mul, .int .i64 div, .int .i64 add] 23)) from ⟨Blk.new _ _ _, by (repeat (first | (with_reducible assumption) | (with_reducible exact Below.refl _ _) | ((with_reducible refine Below.setCell ?_ ?_ _); rotate_left; · (first | omega | (simp; done) | (simp; omega) | (simp at *; omega))) | ((with_reducible refine Below.alloc ?_ ?_ _); rotate_left; · (first | omega | (simp; done) | (simp; omega) | (simp at *; omega))) | (with_reducible refine Below.drew ?_) | (with_reducible refine below_drewN ?_ _) | ((refine Below.trans ?_ (Below.mono (by with_reducible assumption) ?_)); rotate_left; · (first | omega | (simp; done) | (simp; omega) | (simp at *; omega)))))⟩)
  have HE := Lib.hid (show (Sca.mk false false false mul div add).err = 0 from if_pos ho)
  clear ho
  unfold WordsBack
  have t1 : decide (raw < 0) = false := decide_eq_false (by omega)
  have t2 : decide (65535 < raw) = false := decide_eq_false (by omega)
  go_enter Try.func21, Try.ntmps21
  obtain ⟨c0, c1, c2, c3, c4, c5, hl⟩ := HB.out.all
  dsimp only at c0 c1 c2 c3 c4 c5
  go_wp2_with fail
  refine (rcheck_at (Sca.mk false false false mul div add) _ 0 HE.out).mono ?_
  rintro e w1 ⟨rfl, hb1⟩
  have HB1 := Lib.hid (HB.out.below hb1)
  clear c0 c1 c2 c3 c4 c5 hl hb1 HB
  obtain ⟨c0, c1, c2, c3, c4, c5, hl⟩ := HB1.out.all
  dsimp only at c0 c1 c2 c3 c4 c5
  go_wp2_with fail
  refine (many_at (Sca.mk false false false mul div add) _ 65536 rfl).mono ?_
  rintro e w2 ⟨rfl, hb2⟩
  have HB2 := Lib.hid (HB1.out.below hb2)
  clear c0 c1 c2 c3 c4 c5 hl hb2 HB1
  obtain ⟨c0, c1, c2, c3, c4, c5, hl⟩ := HB2.out.all
  dsimp only at c0 c1 c2 c3 c4 c5
  have hbel := HB2.out.2
  go_wp2_with fail
  refine bodyPost_ret (v := .tuple #[.slice (some ⟨w2.heap.size, 0, none⟩) 1 1, .int .i64 0]) ?_ rfl ⟨_, rfl, hbel.size, irow_blk (Blk.new _ _ _) ?_ rfl, by (repeat (first | (with_reducible assumption) | (with_reducible exact Below.refl _ _) | ((with_reducible refine Below.setCell ?_ ?_ _); rotate_left; · (first | omega | (simp; done) | (simp; omega) | (simp at *; omega))) | ((with_reducible refine Below.alloc ?_ ?_ _); rotate_left; · (first | omega | (simp; done) | (simp; omega) | (simp at *; omega))) | (with_reducible refine Below.drew ?_) | (with_reducible refine below_drewN ?_ _) | ((refine Below.trans ?_ (Below.mono (by with_reducible assumption) ?_)); rotate_left; · (first | omega | (simp; done) | (simp; omega) | (simp at *; omega)))))⟩
  · simp [results, Try.results21, go_sem]
  · simp [Sca.list, Sca.lift, Sca.many]; try omega

set_option maxHeartbeats 1000000 in
theorem rwords_FFT (mul div add raw : Int) (w : World) (ho : (Sca.mk false true false mul div add).Ok) (h1 : -32768 ≤ raw) (h2 : raw ≤ 32767) :
    Calls Try.prog 21 #[.agg #[.bool false, .bool true, .bool false, .int .i64 mul, .int .i64 div, .int .i64 add], .int .i64 raw] w (WordsBack ((Sca.mk false true false mul div add).list raw) 1 w) := by
  have HB := Lib.hid (show CB w w.heap.size (Sca.mk false true false mul div add) (w.alloc (.cells #[.bool false, .bool true, .bool false, .int .i64 mul, .int .i64 div, .int .i64 add] 23)) from ⟨Blk.new _ _ _, by (repeat (first | (with_reducible assumption) | (with_reducible exact Below.refl _ _) | ((with_reducible refine Below.setCell ?_ ?_ _); rotate_left; · (first | omega | (simp; done) | (simp; omega) | (simp at *; omega))) | ((with_reducible refine Below.alloc ?_ ?_ _); rotate_left; · (first | omega | (simp; done) | (simp; omega) | (simp at *; omega))) | (with_reducible refine Below.drew ?_) | (with_reducible refine below_drewN ?_ _) | ((refine Below.trans ?_ (Below.mono (by with_reducible assumption) ?_)); rotate_left; · (first | omega | (simp; done) | (simp; omega) | (simp at *; omega)))))⟩)
  have HE := Lib.hid (show (Sca.mk false true false mul div add).err = 0 from if_pos ho)
  clear ho
  unfold WordsBack
  have t1 : decide (raw < -32768) = false := decide_eq_false (by omega)
  have t2 : decide (32767 < raw) = false := decide_eq_false (by omega)
  go_enter Try.func21, Try.ntmps21
  obtain ⟨c0, c1, c2, c3, c4, c5, hl⟩ := HB.out.all
  dsimp only at c0 c1 c2 c3 c4 c5
  go_wp2_with fail
  refine (rcheck_at (Sca.mk false true false mul div add) _ 0 HE.out).mono ?_
  rintro e w1 ⟨rfl, hb1⟩
  have HB1 := Lib.hid (HB.out.below hb1)
  clear c0 c1 c2 c3 c4 c5 hl hb1 HB
  obtain ⟨c0, c1, c2, c3, c4, c5, hl⟩ := HB1.out.all
  dsimp only at c0 c1 c2 c3 c4 c5
  go_wp2_with fail
  refine (many_at (Sca.mk false true false mul div add) _ 65536 rfl).mono ?_
  rintro e w2 ⟨rfl, hb2⟩
  have HB2 := Lib.hid (HB1.out.below hb2)
  clear c0 c1 c2 c3 c4 c5 hl hb2 HB1
  obtain ⟨c0, c1, c2, c3, c4, c5, hl⟩ := HB2.out.all
  dsimp only at c0 c1 c2 c3 c4 c5
  go_wp2_with fail
  refine (many_at (Sca.mk false true false mul div add) _ 65536 rfl).mono ?_
  rintro e w3 ⟨rfl, hb3⟩
  have HB3 := Lib.hid (HB2.out.below hb3)
  clear c0 c1 c2 c3 c4 c5 hl hb3 HB2
  obtain ⟨c0, c1, c2, c3, c4, c5, hl⟩ := HB3.out.all
  dsimp only at c0 c1 c2 c3 c4 c5
  by_cases hz : raw < 0
  · have t3 : decide (raw < 0) = true := decide_eq_true hz
    have hbel := HB3.out.2
    go_wp2_with fail
    refine (many_at (Sca.mk false true false mul div add) _ 65536 rfl).mono ?_
    rintro e w4 ⟨rfl, hb4⟩
    have HB4 := Lib.hid (HB3.out.below hb4)
    clear c0 c1 c2 c3 c4 c5 hl hbel hb4 HB3
    obtain ⟨c0, c1, c2, c3, c4, c5, hl⟩ := HB4.out.all
    dsimp only at c0 c1 c2 c3 c4 c5
    have hbel := HB4.out.2
    go_wp2_with fail
    refine bodyPost_ret (v := .tuple #[.slice (some ⟨w4.heap.size, 0, none⟩) 1 1, .int .i64 0]) ?_ rfl ⟨_, rfl, hbel.size, irow_blk (Blk.new _ _ _) ?_ rfl, by (repeat (first | (with_reducible assumption) | (with_reducible exact Below.refl _ _) | ((with_reducible refine Below.setCell ?_ ?_ _); rotate_left; · (first | omega | (simp; done) | (simp; omega) | (simp at *; omega))) | ((with_reducible refine Below.alloc ?_ ?_ _); rotate_left; · (first | omega | (simp; done) | (simp; omega) | (simp at *; omega))) | (with_reducible refine Below.drew ?_) | (with_reducible refine below_drewN ?_ _) | ((refine Below.trans ?_ (Below.mono (by with_reducible assumption) ?_)); rotate_left; · (first | omega | (simp; done) | (simp; omega) | (simp at *; omega)))))⟩
    · simp [results, Try.results21, go_sem]
    · simp [Sca.list, Sca.lift, Sca.many]; try omega
  · have t3 : decide (raw < 0) = false := decide_eq_false hz
    have hbel := HB3.out.2
    go_wp2_with fail
    refine bodyPost_ret (v := .tuple #[.slice (some ⟨w3.heap.size, 0, none⟩) 1 1, .int .i64 0]) ?_ rfl ⟨_, rfl, hbel.size, irow_blk (Blk.new _ _ _) ?_ rfl, by (repeat (first | (with_reducible assumption) | (with_reducible exact Below.refl _ _) | ((with_reducible refine Below.setCell ?_ ?_ _); rotate_left; · (first | omega | (simp; done) | (simp; omega) | (simp at *; omega))) | ((with_reducible refine Below.alloc ?_ ?_ _); rotate_left; · (first | omega | (simp; done) | (simp; omega) | (simp at *; omega))) | (with_reducible refine Below.drew ?_) | (with_reducible refine below_drewN ?_ _) | ((refine Below.trans ?_ (Below.mono (by with_reducible assumption) ?_)); rotate_left; · (first | omega | (simp; done) | (simp; omega) | (simp at *; omega)))))⟩
    · simp [results, Try.results21, go_sem]
    · simp [Sca.list, Sca.lift, Sca.many]; try omega

set_option maxHeartbeats 1000000 in
theorem rwords_TFF (mul div add raw : Int) (w : World) (ho : (Sca.mk true false false mul div add).Ok) (h1 : 0 ≤ raw) (h2 : raw ≤ 4294967295) :
    Calls Try.prog 21 #[.agg #[.bool true, .bool false, .bool false, .int .i64 mul, .int .i64 div, .int .i64 add], .int .i64 raw] w (WordsBack ((Sca.mk true false false mul div add).list raw) 2 w) := by
  have HB := Lib.hid (show CB w w.heap.size (Sca.mk true false false mul div add) (w.alloc (.cells #[.bool true, .bool false, .bool false, .int .i64 mul, .int .i64 div, .int .i64 add] 23)) from ⟨Blk.new _ _ _, by (repeat (first | (with_reducible assumption) | (with_reducible exact Below.refl _ _) | ((with_reducible refine Below.setCell ?_ ?_ _); rotate_left; · (first | omega | (simp; done) | (simp; omega) | (simp at *; omega))) | ((with_reducible refine Below.alloc ?_ ?_ _); rotate_left; · (first | omega | (simp; done) | (simp; omega) | (simp at *; omega))) | (with_reducible refine Below.drew ?_) | (with_reducible refine below_drewN ?_ _) | ((refine Below.trans ?_ (Below.mono (by with_reducible assumption) ?_)); rotate_left; · (first | omega | (simp; done) | (simp; omega) | (simp at *; omega)))))⟩)
  have HE := Lib.hid (show (Sca.mk true false false mul div add).err = 0 from if_pos ho)
  clear ho
  unfold WordsBack
  have t1 : decide (raw < 0) = false := decide_eq_false (by omega)
  have t2 : decide (4294967295 < raw) = false := decide_eq_false (by omega)
  go_enter Try.func21, Try.ntmps21
  obtain ⟨c0, c1, c2, c3, c4, c5, hl⟩ := HB.out.all
  dsimp only at c0 c1 c2 c3 c4 c5
  go_wp2_with fail
  refine (rcheck_at (Sca.mk true false false mul div add) _ 0 HE.out).mono ?_
  rintro e w1 ⟨rfl, hb1⟩
  have HB1 := Lib.hid (HB.out.below hb1)
  clear c0 c1 c2 c3 c4 c5 hl hb1 HB
  obtain ⟨c0, c1, c2, c3, c4, c5, hl⟩ := HB1.out.all
  dsimp only at c0 c1 c2 c3 c4 c5
  go_wp2_with fail
  refine (many_at (Sca.mk true false false mul div add) _ 4294967296 rfl).mono ?_
  rintro e w2 ⟨rfl, hb2⟩
  have HB2 := Lib.hid (HB1.out.below hb2)
  clear c0 c1 c2 c3 c4 c5 hl hb2 HB1
  obtain ⟨c0, c1, c2, c3, c4, c5, hl⟩ := HB2.out.all
  dsimp only at c0 c1 c2 c3 c4 c5
  have hbel := HB2.out.2
  go_wp2_with fail
  refine bodyPost_ret (v := .tuple #[.slice (some ⟨w2.heap.size, 0, none⟩) 2 2, .int .i64 0]) ?_ rfl ⟨_, rfl, hbel.size, irow_blk (Blk.new _ _ _) ?_ rfl, by (repeat (first | (with_reducible assumption) | (with_reducible exact Below.refl _ _) | ((with_reducible refine Below.setCell ?_ ?_ _); rotate_left; · (first | omega | (simp; done) | (simp; omega) | (simp at *; omega))) | ((with_reducible refine Below.alloc ?_ ?_ _); rotate_left; · (first | omega | (simp; done) | (simp; omega) | (simp at *; omega))) | (with_reducible refine Below.drew ?_) | (with_reducible refine below_drewN ?_ _) | ((refine Below.trans ?_ (Below.mono (by with_reducible assumption) ?_)); rotate_left; · (first | omega | (simp; done) | (simp; omega) | (simp at *; omega)))))⟩
  · simp [results, Try.results21, go_sem]
  · simp [Sca.list, Sca.lift, Sca.many]; try omega

set_option maxHeartbeats 1000000 in
theorem rwords_TFT (mul div add raw : Int) (w : World) (ho : (Sca.mk true true false mul div add).Ok) (h1 : -2147483648 ≤ raw) (h2 : raw ≤ 2147483647) :
    Calls Try.prog 21 #[.agg #[.bool true, .bool true, .bool false, .int .i64 mul, .int .i64 div, .int .i64 add], .int .i64 raw] w (WordsBack ((Sca.mk true true false mul div add).list raw) 2 w) := by
  have HB := Lib.hid (show CB w w.heap.size (Sca.mk true true false mul div add) (w.alloc (.cells #[.bool true, .bool true, .bool false, .int .i64 mul, .int .i64 div, .int .i64 add] 23)) from ⟨Blk.new _ _ _, by (repeat (first | (with_reducible assumption) | (with_reducible exact Below.refl _ _) | ((with_reducible refine Below.setCell ?_ ?_ _); rotate_left; · (first | omega | (simp; done) | (simp; omega) | (simp at *; omega))) | ((with_reducible refine Below.alloc ?_ ?_ _); rotate_left; · (first | omega | (simp; done) | (simp; omega) | (simp at *; omega))) | (with_reducible refine Below.drew ?_) | (with_reducible refine below_drewN ?_ _) | ((refine Below.trans ?_ (Below.mono (by with_reducible assumption) ?_)); rotate_left; · (first | omega | (simp; done) | (simp; omega) | (simp at *; omega)))))⟩)
  have HE := Lib.hid (show (Sca.mk true true false mul div add).err = 0 from if_pos ho)
  clear ho
  unfold WordsBack
  have t1 : decide (raw < -2147483648) = false := decide_eq_false (by omega)
  have t2 : decide (2147483647 < raw) = false := decide_eq_false (by omega)
  go_enter Try.func21, Try.ntmps21
  obtain ⟨c0, c1, c2, c3, c4, c5, hl⟩ := HB.out.all
  dsimp only at c0 c1 c2 c3 c4 c5
  go_wp2_with fail
  refine (rcheck_at (Sca.mk true true false mul div add) _ 0 HE.out).mono ?_
  rintro e w1 ⟨rfl, hb1⟩
  have HB1 := Lib.hid (HB.out.below hb1)
  clear c0 c1 c2 c3 c4 c5 hl hb1 HB
  obtain ⟨c0, c1, c2, c3, c4, c5, hl⟩ := HB1.out.all
  dsimp only at c0 c1 c2 c3 c4 c5
  go_wp2_with fail
  refine (many_at (Sca.mk true true false mul div add) _ 4294967296 rfl).mono ?_
  rintro e w2 ⟨rfl, hb2⟩
  have HB2 := Lib.hid (HB1.out.below hb2)
  clear c0 c1 c2 c3 c4 c5 hl hb2 HB1
  obtain ⟨c0, c1, c2, c3, c4, c5, hl⟩ := HB2.out.all
  dsimp only at c0 c1 c2 c3 c4 c5
  go_wp2_with fail
  refine (many_at (Sca.mk true true false mul div add) _ 4294967296 rfl).mono ?_
  rintro e w3 ⟨rfl, hb3⟩
  have HB3 := Lib.hid (HB2.out.below hb3)
  clear c0 c1 c2 c3 c4 c5 hl hb3 HB2
  obtain ⟨c0, c1, c2, c3, c4, c5, hl⟩ := HB3.out.all
  dsimp only at c0 c1 c2 c3 c4 c5
  by_cases hz : raw < 0
  · have t3 : decide (raw < 0) = true := decide_eq_true hz
    have hbel := HB3.out.2
    go_wp2_with fail
    refine (many_at (Sca.mk true true false mul div add) _ 4294967296 rfl).mono ?_
    rintro e w4 ⟨rfl, hb4⟩
    have HB4 := Lib.hid (HB3.out.below hb4)
    clear c0 c1 c2 c3 c4 c5 hl hbel hb4 HB3
    obtain ⟨c0, c1, c2, c3, c4, c5, hl⟩ := HB4.out.all
    dsimp only at c0 c1 c2 c3 c4 c5
    have hbel := HB4.out.2
    go_wp2_with fail
    refine bodyPost_ret (v := .tuple #[.slice (some ⟨w4.heap.size, 0, none⟩) 2 2, .int .i64 0]) ?_ rfl ⟨_, rfl, hbel.size, irow_blk (Blk.new _ _ _) ?_ rfl, by (repeat (first | (with_reducible assumption) | (with_reducible exact Below.refl _ _) | ((with_reducible refine Below.setCell ?_ ?_ _); rotate_left; · (first | omega | (simp; done) | (simp; omega) | (simp at *; omega))) | ((with_reducible refine Below.alloc ?_ ?_ _); rotate_left; · (first | omega | (simp; done) | (simp; omega) | (simp at *; omega))) | (with_reducible refine Below.drew ?_) | (with_reducible refine below_drewN ?_ _) | ((refine Below.trans ?_ (Below.mono (by with_reducible assumption) ?_)); rotate_left; · (first | omega | (simp; done) | (simp; omega) | (simp at *; omega)))))⟩
    · simp [results, Try.results21, go_sem]
    · simp [Sca.list, Sca.lift, Sca.many]; try omega
  · have t3 : decide (raw < 0) = false := decide_eq_false hz
    have hbel := HB3.out.2
    go_wp2_with fail
    refine bodyPost_ret (v := .tuple #[.slice (some ⟨w3.heap.size, 0, none⟩) 2 2, .int .i64 0]) ?_ rfl ⟨_, rfl, hbel.size, irow_blk (Blk.new _ _ _) ?_ rfl, by (repeat (first | (with_reducible assumption) | (with_reducible exact Below.refl _ _) | ((with_reducible refine Below.setCell ?_ ?_ _); rotate_left; · (first | omega | (simp; done) | (simp; omega) | (simp at *; omega))) | ((with_reducible refine Below.alloc ?_ ?_ _); rotate_left; · (first | omega | (simp; done) | (simp; omega) | (simp at *; omega))) | (with_reducible refine Below.drew ?_) | (with_reducible refine below_drewN ?_ _) | ((refine Below.trans ?_ (Below.mono (by with_reducible assumption) ?_)); rotate_left; · (first | omega | (simp; done) | (simp; omega) | (simp at *; omega)))))⟩
    · simp [results, Try.results21, go_sem]
    · simp [Sca.list, Sca.lift, Sca.many]; try omega

set_option maxHeartbeats 1000000 in
theorem rwords_TTF (mul div add raw : Int) (w : World) (ho : (Sca.mk true false true mul div add).Ok) (h1 : 0 ≤ raw) (h2 : raw ≤ 4294967295) :
    Calls Try.prog 21 #[.agg #[.bool true, .bool false, .bool true, .int .i64 mul, .int .i64 div, .int .i64 add], .int .i64 raw] w (WordsBack ((Sca.mk true false true mul div add).list raw) 2 w) := by
  have HB := Lib.hid (show CB w w.heap.size (Sca.mk true false true mul div add) (w.alloc (.cells #[.bool true, .bool false, .bool true, .int .i64 mul, .int .i64 div, .int .i64 add] 23)) from ⟨Blk.new _ _ _, by (repeat (first | (with_reducible assumption) | (with_reducible exact Below.refl _ _) | ((with_reducible refine Below.setCell ?_ ?_ _); rotate_left; · (first | omega | (simp; done) | (simp; omega) | (simp at *; omega))) | ((with_reducible refine Below.alloc ?_ ?_ _); rotate_left; · (first | omega | (simp; done) | (simp; omega) | (simp at *; omega))) | (with_reducible refine Below.drew ?_) | (with_reducible refine below_drewN ?_ _) | ((refine Below.trans ?_ (Below.mono (by with_reducible assumption) ?_)); rotate_left; · (first | omega | (simp; done) | (simp; omega) | (simp at *; omega)))))⟩)
  have HE := Lib.hid (show (Sca.mk true false true mul div add).err = 0 from if_pos ho)
  clear ho
  unfold WordsBack
  have t1 : decide (raw < 0) = false := decide_eq_false (by omega)
  have t2 : decide (4294967295 < raw) = false := decide_eq_false (by omega)
  go_enter Try.func21, Try.ntmps21
  obtain ⟨c0, c1, c2, c3, c4, c5, hl⟩ := HB.out.all
  dsimp only at c0 c1 c2 c3 c4 c5
  go_wp2_with fail
  refine (rcheck_at (Sca.mk true false true mul div add) _ 0 HE.out).mono ?_
  rintro e w1 ⟨rfl, hb1⟩
  have HB1 := Lib.hid (HB.out.below hb1)
  clear c0 c1 c2 c3 c4 c5 hl hb1 HB
  obtain ⟨c0, c1, c2, c3, c4, c5, hl⟩ := HB1.out.all
  dsimp only at c0 c1 c2 c3 c4 c5
  go_wp2_with fail
  refine (many_at (Sca.mk true false true mul div add) _ 4294967296 rfl).mono ?_
  rintro e w2 ⟨rfl, hb2⟩
  have HB2 := Lib.hid (HB1.out.below hb2)
  clear c0 c1 c2 c3 c4 c5 hl hb2 HB1
  obtain ⟨c0, c1, c2, c3, c4, c5, hl⟩ := HB2.out.all
  dsimp only at c0 c1 c2 c3 c4 c5
  have hbel := HB2.out.2
  go_wp2_with fail
  refine bodyPost_ret (v := .tuple #[.slice (some ⟨w2.heap.size, 0, none⟩) 2 2, .int .i64 0]) ?_ rfl ⟨_, rfl, hbel.size, irow_blk (Blk.new _ _ _) ?_ rfl, by (repeat (first | (with_reducible assumption) | (with_reducible exact Below.refl _ _) | ((with_reducible refine Below.setCell ?_ ?_ _); rotate_left; · (first | omega | (simp; done) | (simp; omega) | (simp at *; omega))) | ((with_reducible refine Below.alloc ?_ ?_ _); rotate_left; · (first | omega | (simp; done) | (simp; omega) | (simp at *; omega))) | (with_reducible refine Below.drew ?_) | (with_reducible refine below_drewN ?_ _) | ((refine Below.trans ?_ (Below.mono (by with_reducible assumption) ?_)); rotate_left; · (first | omega | (simp; done) | (simp; omega) | (simp at *; omega)))))⟩
  · simp [results, Try.results21, go_sem]
  · simp [Sca.list, Sca.lift, Sca.many]; try omega

set_option maxHeartbeats 1000000 in
theorem rwords_TTT (mul div add raw : Int) (w : World) (ho : (Sca.mk true true true mul div add).Ok) (h1 : -2147483648 ≤ raw) (h2 : raw ≤ 2147483647) :
    Calls Try.prog 21 #[.agg #[.bool true, .bool true, .bool true, .int .i64 mul, .int .i64 div, .int .i64 add], .int .i64 raw] w (WordsBack ((Sca.mk true true true mul div add).list raw) 2 w) := by
  have HB := Lib.hid (show CB w w.heap.size (Sca.mk true true true mul div add) (w.alloc (.cells #[.bool true, .bool true, .bool true, .int .i64 mul, .int .i64 div, .int .i64 add] 23)) from ⟨Blk.new _ _ _, by (repeat (first | (with_reducible assumption) | (with_reducible exact Below.refl _ _) | ((with_reducible refine Below.setCell ?_ ?_ _); rotate_left; · (first | omega | (simp; done) | (simp; omega) | (simp at *; omega))) | ((with_reducible refine Below.alloc ?_ ?_ _); rotate_left; · (first | omega | (simp; done) | (simp; omega) | (simp at *; omega))) | (with_reducible refine Below.drew ?_) | (with_reducible refine below_drewN ?_ _) | ((refine Below.trans ?_ (Below.mono (by with_reducible assumption) ?_)); rotate_left; · (first | omega | (simp; done) | (simp; omega) | (simp at *; omega)))))⟩)
  have HE := Lib.hid (show (Sca.mk true true true mul div add).err = 0 from if_pos ho)
  clear ho
  unfold WordsBack
  have t1 : decide (raw < -2147483648) = false := decide_eq_false (by omega)
  have t2 : decide (2147483647 < raw) = false := decide_eq_false (by omega)
  go_enter Try.func21, Try.ntmps21
  obtain ⟨c0, c1, c2, c3, c4, c5, hl⟩ := HB.out.all
  dsimp only at c0 c1 c2 c3 c4 c5
  go_wp2_with fail
  refine (rcheck_at (Sca.mk true true true mul div add) _ 0 HE.out).mono ?_
  rintro e w1 ⟨rfl, hb1⟩
  have HB1 := Lib.hid (HB.out.below hb1)
  clear c0 c1 c2 c3 c4 c5 hl hb1 HB
  obtain ⟨c0, c1, c2, c3, c4, c5, hl⟩ := HB1.out.all
  dsimp only at c0 c1 c2 c3 c4 c5
  go_wp2_with fail
  refine (many_at (Sca.mk true true true mul div add) _ 4294967296 rfl).mono ?_
  rintro e w2 ⟨rfl, hb2⟩
  have HB2 := Lib.hid (HB1.out.below hb2)
  clear c0 c1 c2 c3 c4 c5 hl hb2 HB1
  obtain ⟨c0, c1, c2, c3, c4, c5, hl⟩ := HB2.out.all
  dsimp only at c0 c1 c2 c3 c4 c5
  go_wp2_with fail
  refine (many_at (Sca.mk true true true mul div add) _ 4294967296 rfl).mono ?_
  rintro e w3 ⟨rfl, hb3⟩
  have HB3 := Lib.hid (HB2.out.below hb3)
  clear c0 c1 c2 c3 c4 c5 hl hb3 HB2
  obtain ⟨c0, c1, c2, c3, c4, c5, hl⟩ := HB3.out.all
  dsimp only at c0 c1 c2 c3 c4 c5
  by_cases hz : raw < 0
  · have t3 : decide (raw < 0) = true := decide_eq_true hz
    have hbel := HB3.out.2
    go_wp2_with fail
    refine (many_at (Sca.mk true true true mul div add) _ 4294967296 rfl).mono ?_
    rintro e w4 ⟨rfl, hb4⟩
    have HB4 := Lib.hid (HB3.out.below hb4)
    clear c0 c1 c2 c3 c4 c5 hl hbel hb4 HB3
    obtain ⟨c0, c1, c2, c3, c4, c5, hl⟩ := HB4.out.all
    dsimp only at c0 c1 c2 c3 c4 c5
    have hbel := HB4.out.2
    go_wp2_with fail
    refine bodyPost_ret (v := .tuple #[.slice (some ⟨w4.heap.size, 0, none⟩) 2 2, .int .i64 0]) ?_ rfl ⟨_, rfl, hbel.size, irow_blk (Blk.new _ _ _) ?_ rfl, by (repeat (first | (with_reducible assumption) | (with_reducible exact Below.refl _ _) | ((with_reducible refine Below.setCell ?_ ?_ _); rotate_left; · (first | omega | (simp; done) | (simp; omega) | (simp at *; omega))) | ((with_reducible refine Below.alloc ?_ ?_ _); rotate_left; · (first | omega | (simp; done) | (simp; omega) | (simp at *; omega))) | (with_reducible refine Below.drew ?_) | (with_reducible refine below_drewN ?_ _) | ((refine Below.trans ?_ (Below.mono (by with_reducible assumption) ?_)); rotate_left; · (first | omega | (simp; done) | (simp; omega) | (simp at *; omega)))))⟩
    · simp [results, Try.results21, go_sem]
    · simp [Sca.list, Sca.lift, Sca.many]; try omega
  · have t3 : decide (raw < 0) = false := decide_eq_false hz
    have hbel := HB3.out.2
    go_wp2_with fail
    refine bodyPost_ret (v := .tuple #[.slice (some ⟨w3.heap.size, 0, none⟩) 2 2, .int .i64 0]) ?_ rfl ⟨_, rfl, hbel.size, irow_blk (Blk.new _ _ _) ?_ rfl, by (repeat (first | (with_reducible assumption) | (with_reducible exact Below.refl _ _) | ((with_reducible refine Below.setCell ?_ ?_ _); rotate_left; · (first | omega | (simp; done) | (simp; omega) | (simp at *; omega))) | ((with_reducible refine Below.alloc ?_ ?_ _); rotate_left; · (first | omega | (simp; done) | (simp; omega) | (simp at *; omega))) | (with_reducible refine Below.drew ?_) | (with_reducible refine below_drewN ?_ _) | ((refine Below.trans ?_ (Below.mono (by with_reducible assumption) ?_)); rotate_left; · (first | omega | (simp; done) | (simp; omega) | (simp at *; omega)))))⟩
    · simp [results, Try.results21, go_sem]
    · simp [Sca.list, Sca.lift, Sca.many]; try omega
end Go.Proofs.Ytbfdecfdmigoiaa
