/-
  What is proved here: what Words of package scale answers (chapter 6). Conditions: each theorem's own.
-/
import Derived.Test.YtbfdecfdmigoiaaScaKit
import Derived.Test.YtbfdecfdmigoiaaIntRow
import Derived.RegionTactic
import Derived.Deep.RegionHeld3
import Derived.BigRegion
import Derived.Deep.DeepCutAuto
namespace Go.Proofs.Ytbfdecfdmigoiaa
open Go.RowKit Go.Deep

def Sca.low (s : Sca) : Int := if s.signed = true then -(s.many / 2) else 0
def Sca.lift (s : Sca) (raw : Int) : Int := if raw < 0 then raw + s.many else raw
def Sca.list (s : Sca) (raw : Int) : List Int := if s.wide = true then (if s.swap = true then [s.lift raw % 65536, s.lift raw / 65536] else [s.lift raw / 65536, s.lift raw % 65536]) else [s.lift raw]
/-- words in memory of their own. -/
def WordsBack (L : List Int) (n : Nat) (w : World) (e : Ending) (w' : World) : Prop :=
  ∃ g, e = .returned (.tuple #[.slice (some ⟨g, 0, none⟩) n n, .int .i64 0]) ∧ w.heap.size ≤ g ∧ IRow .u16 41 w' g n L ∧ Below w.heap.size w w'
theorem irow_blk {k : IntKind} {E : TypeId} {w : World} {g n : Nat} {L : List Int} {cs : Array Value} (h : Blk w g E cs) (e : cs.toList = L.map (Value.int k)) (hn : L.length = n) : IRow k E w g n L := by
  subst hn
  have hl : cs.size = L.length := by rw [← Array.length_toList, e, List.length_map]
  exact ⟨cs, h, hl, Nat.le_refl _, by rw [e]; exact List.take_of_length_le (by simp), by rw [e]; exact ints_all k L⟩
theorem u16_wrap (x : Int) : IntKind.u16.wrap x = x % 65536 := by
  unfold IntKind.wrap
  simp [IntKind.bits, IntKind.signed]

set_option maxHeartbeats 1000000 in
theorem words_FFF (mul div add raw : Int) (w : World) (ho : (Sca.mk false false false mul div add).Ok) (h1 : 0 ≤ raw) (h2 : raw ≤ 65535) :
    Calls Try.prog 20 #[.agg #[.bool false, .bool false, .bool false, .int .i64 mul, .int .i64 div, .int .i64 add], .int .i64 raw] w (WordsBack ((Sca.mk false false false mul div add).list raw) 1 w) := by
  have HB := Lib.hid (show CB w w.heap.size (Sca.mk false false false mul div add) (w.alloc (.cells #[.bool false, .bool false, .bool false, .int .i64 mul, .int .i64 div, .int .i64 add] 23)) from ⟨Blk.new _ _ _, by (repeat (first | (with_reducible assumption) | (with_reducible exact Below.refl _ _) | ((with_reducible refine Below.setCell ?_ ?_ _); rotate_left; · (first | omega | (simp; done) | (simp; omega) | (simp at *; omega))) | ((with_reducible refine Below.alloc ?_ ?_ _); rotate_left; · (first | omega | (simp; done) | (simp; omega) | (simp at *; omega))) | (with_reducible refine Below.drew ?_) | (with_reducible refine below_drewN ?_ _) | ((refine Below.trans ?_ (Below.mono (by with_reducible assumption) ?_)); rotate_left; · (first | omega | (simp; done) | (simp; omega) | (simp at *; omega)))))⟩)
  have HE := Lib.hid (show (Sca.mk false false false mul div add).err = 0 from if_pos ho)
  clear ho
  unfold WordsBack
  have q2 := (same_clip raw (0) 65535 (by decide)).2
  rw [decide_eq_false (by omega)] at q2
  go_enter Try.func20, Try.ntmps20
  obtain ⟨c0, c1, c2, c3, c4, c5, hl⟩ := HB.out.all
  dsimp only at c0 c1 c2 c3 c4 c5
  go_wp2_with fail
  refine (check_at (Sca.mk false false false mul div add) _ 0 HE.out).mono ?_
  rintro e w1 ⟨rfl, hb1⟩
  have HB1 := Lib.hid (HB.out.below hb1)
  clear c0 c1 c2 c3 c4 c5 hl hb1 HB
  obtain ⟨c0, c1, c2, c3, c4, c5, hl⟩ := HB1.out.all
  dsimp only at c0 c1 c2 c3 c4 c5
  go_wp2_with fail
  refine (span_at (Sca.mk false false false mul div add) _ 65536 rfl).mono ?_
  rintro e w2 ⟨rfl, hb2⟩
  have HB2 := Lib.hid (HB1.out.below hb2)
  clear c0 c1 c2 c3 c4 c5 hl hb2 HB1
  obtain ⟨c0, c1, c2, c3, c4, c5, hl⟩ := HB2.out.all
  dsimp only at c0 c1 c2 c3 c4 c5
  have hbel := HB2.out.2
  go_wp2_with fail
  refine (within_any raw (0) 65535 _).mono ?_
  rintro e wv ⟨rfl, rfl⟩
  go_wp2_with fail
  refine bodyPost_ret (v := .tuple #[.slice (some ⟨w2.heap.size, 0, none⟩) 1 1, .int .i64 0]) ?_ rfl ⟨_, rfl, hbel.size, irow_blk (Blk.new _ _ _) ?_ rfl, by (repeat (first | (with_reducible assumption) | (with_reducible exact Below.refl _ _) | ((with_reducible refine Below.setCell ?_ ?_ _); rotate_left; · (first | omega | (simp; done) | (simp; omega) | (simp at *; omega))) | ((with_reducible refine Below.alloc ?_ ?_ _); rotate_left; · (first | omega | (simp; done) | (simp; omega) | (simp at *; omega))) | (with_reducible refine Below.drew ?_) | (with_reducible refine below_drewN ?_ _) | ((refine Below.trans ?_ (Below.mono (by with_reducible assumption) ?_)); rotate_left; · (first | omega | (simp; done) | (simp; omega) | (simp at *; omega)))))⟩
  · simp [results, Try.results20, go_sem]
  · simp [Sca.list, Sca.lift, Sca.many]; try omega

set_option maxHeartbeats 1000000 in
theorem words_FFT (mul div add raw : Int) (w : World) (ho : (Sca.mk false true false mul div add).Ok) (h1 : -32768 ≤ raw) (h2 : raw ≤ 32767) :
    Calls Try.prog 20 #[.agg #[.bool false, .bool true, .bool false, .int .i64 mul, .int .i64 div, .int .i64 add], .int .i64 raw] w (WordsBack ((Sca.mk false true false mul div add).list raw) 1 w) := by
  have HB := Lib.hid (show CB w w.heap.size (Sca.mk false true false mul div add) (w.alloc (.cells #[.bool false, .bool true, .bool false, .int .i64 mul, .int .i64 div, .int .i64 add] 23)) from ⟨Blk.new _ _ _, by (repeat (first | (with_reducible assumption) | (with_reducible exact Below.refl _ _) | ((with_reducible refine Below.setCell ?_ ?_ _); rotate_left; · (first | omega | (simp; done) | (simp; omega) | (simp at *; omega))) | ((with_reducible refine Below.alloc ?_ ?_ _); rotate_left; · (first | omega | (simp; done) | (simp; omega) | (simp at *; omega))) | (with_reducible refine Below.drew ?_) | (with_reducible refine below_drewN ?_ _) | ((refine Below.trans ?_ (Below.mono (by with_reducible assumption) ?_)); rotate_left; · (first | omega | (simp; done) | (simp; omega) | (simp at *; omega)))))⟩)
  have HE := Lib.hid (show (Sca.mk false true false mul div add).err = 0 from if_pos ho)
  clear ho
  unfold WordsBack
  have q2 := (same_clip raw (-32768) 32767 (by decide)).2
  rw [decide_eq_false (by omega)] at q2
  go_enter Try.func20, Try.ntmps20
  obtain ⟨c0, c1, c2, c3, c4, c5, hl⟩ := HB.out.all
  dsimp only at c0 c1 c2 c3 c4 c5
  go_wp2_with fail
  refine (check_at (Sca.mk false true false mul div add) _ 0 HE.out).mono ?_
  rintro e w1 ⟨rfl, hb1⟩
  have HB1 := Lib.hid (HB.out.below hb1)
  clear c0 c1 c2 c3 c4 c5 hl hb1 HB
  obtain ⟨c0, c1, c2, c3, c4, c5, hl⟩ := HB1.out.all
  dsimp only at c0 c1 c2 c3 c4 c5
  go_wp2_with fail
  refine (span_at (Sca.mk false true false mul div add) _ 65536 rfl).mono ?_
  rintro e w2 ⟨rfl, hb2⟩
  have HB2 := Lib.hid (HB1.out.below hb2)
  clear c0 c1 c2 c3 c4 c5 hl hb2 HB1
  obtain ⟨wx, rfl⟩ : ∃ wq : World, wq = w2 := ⟨_, rfl⟩
  obtain ⟨c0, c1, c2, c3, c4, c5, hl⟩ := HB2.out.all
  dsimp only at c0 c1 c2 c3 c4 c5
  go_upto_region 6 with fail
  go_cut [7, 8] (fun s7 s8 wy => s7 = .int .i64 (-32768) ∧ s8 = .int .i64 32767 ∧ Below wx.heap.size wx wy)
  case first =>
    go_region_held3 (fun w' => w'.cell? ⟨w.heap.size, 0, none⟩ = some (.bool false) ∧ w'.cell? ⟨w.heap.size, 1, none⟩ = some (.bool true) ∧ w'.cell? ⟨w.heap.size, 2, none⟩ = some (.bool false) ∧ w'.cell? ⟨w.heap.size, 3, none⟩ = some (.int .i64 mul) ∧ w'.cell? ⟨w.heap.size, 4, none⟩ = some (.int .i64 div) ∧ w'.cell? ⟨w.heap.size, 5, none⟩ = some (.int .i64 add) ∧ Below wx.heap.size wx w')
      (first
        | exact ⟨c0, c1, c2, c3, c4, c5, (Below.refl _ _).drew⟩
        | (go_split_ands; refine ⟨(hb.cell (p := ⟨w.heap.size, 0, none⟩) (Nat.lt_of_lt_of_le hl (Below.size (by assumption)))).trans (by assumption), (hb.cell (p := ⟨w.heap.size, 1, none⟩) (Nat.lt_of_lt_of_le hl (Below.size (by assumption)))).trans (by assumption), (hb.cell (p := ⟨w.heap.size, 2, none⟩) (Nat.lt_of_lt_of_le hl (Below.size (by assumption)))).trans (by assumption), (hb.cell (p := ⟨w.heap.size, 3, none⟩) (Nat.lt_of_lt_of_le hl (Below.size (by assumption)))).trans (by assumption), (hb.cell (p := ⟨w.heap.size, 4, none⟩) (Nat.lt_of_lt_of_le hl (Below.size (by assumption)))).trans (by assumption), (hb.cell (p := ⟨w.heap.size, 5, none⟩) (Nat.lt_of_lt_of_le hl (Below.size (by assumption)))).trans (by assumption), Below.trans (by assumption) (hb.mono (Below.size (by assumption)))⟩))
      (first
        | (go_at_call 24; (try go_split_ands); (with_reducible refine (span_at (Sca.mk false true false mul div add) _ 65536 rfl).mono ?_); rintro e w' ⟨rfl, hb⟩; have hk : Below wx.heap.size wx w' := (by first | exact hk.trans (hb.mono hk.size) | exact (Below.refl _ _).drew.trans hb)))
    go_wp2_with fail
    go_meet
    go_split_ands
    exact ⟨rfl, rfl, by assumption⟩
  obtain ⟨rfl, rfl, hby⟩ := hcut
  obtain ⟨wy, rfl⟩ : ∃ wq : World, wq = wc := ⟨_, rfl⟩
  have HB3 := Lib.hid (HB2.out.below hby)
  clear c0 c1 c2 c3 c4 c5 hl hby HB2
  obtain ⟨c0, c1, c2, c3, c4, c5, hl⟩ := HB3.out.all
  dsimp only at c0 c1 c2 c3 c4 c5
  have hbel := HB3.out.2
  go_wp2_with fail
  refine (within_any raw (-32768) 32767 _).mono ?_
  rintro e wv ⟨rfl, rfl⟩
  go_wp2_with fail
  refine bodyPost_ret (v := .tuple #[.slice (some ⟨wy.heap.size, 0, none⟩) 1 1, .int .i64 0]) ?_ rfl ⟨_, rfl, hbel.size, irow_blk (Blk.new _ _ _) ?_ rfl, by (repeat (first | (with_reducible assumption) | (with_reducible exact Below.refl _ _) | ((with_reducible refine Below.setCell ?_ ?_ _); rotate_left; · (first | omega | (simp; done) | (simp; omega) | (simp at *; omega))) | ((with_reducible refine Below.alloc ?_ ?_ _); rotate_left; · (first | omega | (simp; done) | (simp; omega) | (simp at *; omega))) | (with_reducible refine Below.drew ?_) | (with_reducible refine below_drewN ?_ _) | ((refine Below.trans ?_ (Below.mono (by with_reducible assumption) ?_)); rotate_left; · (first | omega | (simp; done) | (simp; omega) | (simp at *; omega)))))⟩
  · simp [results, Try.results20, go_sem]
  · simp [Sca.list, Sca.lift, Sca.many, u16_wrap]; try omega

set_option maxHeartbeats 1000000 in
theorem words_TFF (mul div add raw : Int) (w : World) (ho : (Sca.mk true false false mul div add).Ok) (h1 : 0 ≤ raw) (h2 : raw ≤ 4294967295) :
    Calls Try.prog 20 #[.agg #[.bool true, .bool false, .bool false, .int .i64 mul, .int .i64 div, .int .i64 add], .int .i64 raw] w (WordsBack ((Sca.mk true false false mul div add).list raw) 2 w) := by
  have HB := Lib.hid (show CB w w.heap.size (Sca.mk true false false mul div add) (w.alloc (.cells #[.bool true, .bool false, .bool false, .int .i64 mul, .int .i64 div, .int .i64 add] 23)) from ⟨Blk.new _ _ _, by (repeat (first | (with_reducible assumption) | (with_reducible exact Below.refl _ _) | ((with_reducible refine Below.setCell ?_ ?_ _); rotate_left; · (first | omega | (simp; done) | (simp; omega) | (simp at *; omega))) | ((with_reducible refine Below.alloc ?_ ?_ _); rotate_left; · (first | omega | (simp; done) | (simp; omega) | (simp at *; omega))) | (with_reducible refine Below.drew ?_) | (with_reducible refine below_drewN ?_ _) | ((refine Below.trans ?_ (Below.mono (by with_reducible assumption) ?_)); rotate_left; · (first | omega | (simp; done) | (simp; omega) | (simp at *; omega)))))⟩)
  have HE := Lib.hid (show (Sca.mk true false false mul div add).err = 0 from if_pos ho)
  clear ho
  unfold WordsBack
  have q2 := (same_clip raw (0) 4294967295 (by decide)).2
  rw [decide_eq_false (by omega)] at q2
  go_enter Try.func20, Try.ntmps20
  obtain ⟨c0, c1, c2, c3, c4, c5, hl⟩ := HB.out.all
  dsimp only at c0 c1 c2 c3 c4 c5
  go_wp2_with fail
  refine (check_at (Sca.mk true false false mul div add) _ 0 HE.out).mono ?_
  rintro e w1 ⟨rfl, hb1⟩
  have HB1 := Lib.hid (HB.out.below hb1)
  clear c0 c1 c2 c3 c4 c5 hl hb1 HB
  obtain ⟨c0, c1, c2, c3, c4, c5, hl⟩ := HB1.out.all
  dsimp only at c0 c1 c2 c3 c4 c5
  go_wp2_with fail
  refine (span_at (Sca.mk true false false mul div add) _ 4294967296 rfl).mono ?_
  rintro e w2 ⟨rfl, hb2⟩
  have HB2 := Lib.hid (HB1.out.below hb2)
  clear c0 c1 c2 c3 c4 c5 hl hb2 HB1
  obtain ⟨c0, c1, c2, c3, c4, c5, hl⟩ := HB2.out.all
  dsimp only at c0 c1 c2 c3 c4 c5
  have hbel := HB2.out.2
  go_wp2_with fail
  refine (within_any raw (0) 4294967295 _).mono ?_
  rintro e wv ⟨rfl, rfl⟩
  go_wp2_with fail
  refine bodyPost_ret (v := .tuple #[.slice (some ⟨w2.heap.size, 0, none⟩) 2 2, .int .i64 0]) ?_ rfl ⟨_, rfl, hbel.size, irow_blk (Blk.new _ _ _) ?_ rfl, by (repeat (first | (with_reducible assumption) | (with_reducible exact Below.refl _ _) | ((with_reducible refine Below.setCell ?_ ?_ _); rotate_left; · (first | omega | (simp; done) | (simp; omega) | (simp at *; omega))) | ((with_reducible refine Below.alloc ?_ ?_ _); rotate_left; · (first | omega | (simp; done) | (simp; omega) | (simp at *; omega))) | (with_reducible refine Below.drew ?_) | (with_reducible refine below_drewN ?_ _) | ((refine Below.trans ?_ (Below.mono (by with_reducible assumption) ?_)); rotate_left; · (first | omega | (simp; done) | (simp; omega) | (simp at *; omega)))))⟩
  · simp [results, Try.results20, go_sem]
  · simp [Sca.list, Sca.lift, Sca.many, u16_wrap]; try omega

set_option maxHeartbeats 1000000 in
theorem words_TFT (mul div add raw : Int) (w : World) (ho : (Sca.mk true true false mul div add).Ok) (h1 : -2147483648 ≤ raw) (h2 : raw ≤ 2147483647) :
    Calls Try.prog 20 #[.agg #[.bool true, .bool true, .bool false, .int .i64 mul, .int .i64 div, .int .i64 add], .int .i64 raw] w (WordsBack ((Sca.mk true true false mul div add).list raw) 2 w) := by
  have HB := Lib.hid (show CB w w.heap.size (Sca.mk true true false mul div add) (w.alloc (.cells #[.bool true, .bool true, .bool false, .int .i64 mul, .int .i64 div, .int .i64 add] 23)) from ⟨Blk.new _ _ _, by (repeat (first | (with_reducible assumption) | (with_reducible exact Below.refl _ _) | ((with_reducible refine Below.setCell ?_ ?_ _); rotate_left; · (first | omega | (simp; done) | (simp; omega) | (simp at *; omega))) | ((with_reducible refine Below.alloc ?_ ?_ _); rotate_left; · (first | omega | (simp; done) | (simp; omega) | (simp at *; omega))) | (with_reducible refine Below.drew ?_) | (with_reducible refine below_drewN ?_ _) | ((refine Below.trans ?_ (Below.mono (by with_reducible assumption) ?_)); rotate_left; · (first | omega | (simp; done) | (simp; omega) | (simp at *; omega)))))⟩)
  have HE := Lib.hid (show (Sca.mk true true false mul div add).err = 0 from if_pos ho)
  clear ho
  unfold WordsBack
  have q2 := (same_clip raw (-2147483648) 2147483647 (by decide)).2
  rw [decide_eq_false (by omega)] at q2
  go_enter Try.func20, Try.ntmps20
  obtain ⟨c0, c1, c2, c3, c4, c5, hl⟩ := HB.out.all
  dsimp only at c0 c1 c2 c3 c4 c5
  go_wp2_with fail
  refine (check_at (Sca.mk true true false mul div add) _ 0 HE.out).mono ?_
  rintro e w1 ⟨rfl, hb1⟩
  have HB1 := Lib.hid (HB.out.below hb1)
  clear c0 c1 c2 c3 c4 c5 hl hb1 HB
  obtain ⟨c0, c1, c2, c3, c4, c5, hl⟩ := HB1.out.all
  dsimp only at c0 c1 c2 c3 c4 c5
  go_wp2_with fail
  refine (span_at (Sca.mk true true false mul div add) _ 4294967296 rfl).mono ?_
  rintro e w2 ⟨rfl, hb2⟩
  have HB2 := Lib.hid (HB1.out.below hb2)
  clear c0 c1 c2 c3 c4 c5 hl hb2 HB1
  obtain ⟨wx, rfl⟩ : ∃ wq : World, wq = w2 := ⟨_, rfl⟩
  obtain ⟨c0, c1, c2, c3, c4, c5, hl⟩ := HB2.out.all
  dsimp only at c0 c1 c2 c3 c4 c5
  go_upto_region 6 with fail
  go_cut [7, 8] (fun s7 s8 wy => s7 = .int .i64 (-2147483648) ∧ s8 = .int .i64 2147483647 ∧ Below wx.heap.size wx wy)
  case first =>
    go_region_held3 (fun w' => w'.cell? ⟨w.heap.size, 0, none⟩ = some (.bool true) ∧ w'.cell? ⟨w.heap.size, 1, none⟩ = some (.bool true) ∧ w'.cell? ⟨w.heap.size, 2, none⟩ = some (.bool false) ∧ w'.cell? ⟨w.heap.size, 3, none⟩ = some (.int .i64 mul) ∧ w'.cell? ⟨w.heap.size, 4, none⟩ = some (.int .i64 div) ∧ w'.cell? ⟨w.heap.size, 5, none⟩ = some (.int .i64 add) ∧ Below wx.heap.size wx w')
      (first
        | exact ⟨c0, c1, c2, c3, c4, c5, (Below.refl _ _).drew⟩
        | (go_split_ands; refine ⟨(hb.cell (p := ⟨w.heap.size, 0, none⟩) (Nat.lt_of_lt_of_le hl (Below.size (by assumption)))).trans (by assumption), (hb.cell (p := ⟨w.heap.size, 1, none⟩) (Nat.lt_of_lt_of_le hl (Below.size (by assumption)))).trans (by assumption), (hb.cell (p := ⟨w.heap.size, 2, none⟩) (Nat.lt_of_lt_of_le hl (Below.size (by assumption)))).trans (by assumption), (hb.cell (p := ⟨w.heap.size, 3, none⟩) (Nat.lt_of_lt_of_le hl (Below.size (by assumption)))).trans (by assumption), (hb.cell (p := ⟨w.heap.size, 4, none⟩) (Nat.lt_of_lt_of_le hl (Below.size (by assumption)))).trans (by assumption), (hb.cell (p := ⟨w.heap.size, 5, none⟩) (Nat.lt_of_lt_of_le hl (Below.size (by assumption)))).trans (by assumption), Below.trans (by assumption) (hb.mono (Below.size (by assumption)))⟩))
      (first
        | (go_at_call 24; (try go_split_ands); (with_reducible refine (span_at (Sca.mk true true false mul div add) _ 4294967296 rfl).mono ?_); rintro e w' ⟨rfl, hb⟩; have hk : Below wx.heap.size wx w' := (by first | exact hk.trans (hb.mono hk.size) | exact (Below.refl _ _).drew.trans hb)))
    go_wp2_with fail
    go_meet
    go_split_ands
    exact ⟨rfl, rfl, by assumption⟩
  obtain ⟨rfl, rfl, hby⟩ := hcut
  obtain ⟨wy, rfl⟩ : ∃ wq : World, wq = wc := ⟨_, rfl⟩
  have HB3 := Lib.hid (HB2.out.below hby)
  clear c0 c1 c2 c3 c4 c5 hl hby HB2
  obtain ⟨c0, c1, c2, c3, c4, c5, hl⟩ := HB3.out.all
  dsimp only at c0 c1 c2 c3 c4 c5
  have hbel := HB3.out.2
  go_wp2_with fail
  refine (within_any raw (-2147483648) 2147483647 _).mono ?_
  rintro e wv ⟨rfl, rfl⟩
  go_wp2_with fail
  refine bodyPost_ret (v := .tuple #[.slice (some ⟨wy.heap.size, 0, none⟩) 2 2, .int .i64 0]) ?_ rfl ⟨_, rfl, hbel.size, irow_blk (Blk.new _ _ _) ?_ rfl, by (repeat (first | (with_reducible assumption) | (with_reducible exact Below.refl _ _) | ((with_reducible refine Below.setCell ?_ ?_ _); rotate_left; · (first | omega | (simp; done) | (simp; omega) | (simp at *; omega))) | ((with_reducible refine Below.alloc ?_ ?_ _); rotate_left; · (first | omega | (simp; done) | (simp; omega) | (simp at *; omega))) | (with_reducible refine Below.drew ?_) | (with_reducible refine below_drewN ?_ _) | ((refine Below.trans ?_ (Below.mono (by with_reducible assumption) ?_)); rotate_left; · (first | omega | (simp; done) | (simp; omega) | (simp at *; omega)))))⟩
  · simp [results, Try.results20, go_sem]
  · simp [Sca.list, Sca.lift, Sca.many, u16_wrap]; try omega

set_option maxHeartbeats 1000000 in
theorem words_TTF (mul div add raw : Int) (w : World) (ho : (Sca.mk true false true mul div add).Ok) (h1 : 0 ≤ raw) (h2 : raw ≤ 4294967295) :
    Calls Try.prog 20 #[.agg #[.bool true, .bool false, .bool true, .int .i64 mul, .int .i64 div, .int .i64 add], .int .i64 raw] w (WordsBack ((Sca.mk true false true mul div add).list raw) 2 w) := by
  have HB := Lib.hid (show CB w w.heap.size (Sca.mk true false true mul div add) (w.alloc (.cells #[.bool true, .bool false, .bool true, .int .i64 mul, .int .i64 div, .int .i64 add] 23)) from ⟨Blk.new _ _ _, by (repeat (first | (with_reducible assumption) | (with_reducible exact Below.refl _ _) | ((with_reducible refine Below.setCell ?_ ?_ _); rotate_left; · (first | omega | (simp; done) | (simp; omega) | (simp at *; omega))) | ((with_reducible refine Below.alloc ?_ ?_ _); rotate_left; · (first | omega | (simp; done) | (simp; omega) | (simp at *; omega))) | (with_reducible refine Below.drew ?_) | (with_reducible refine below_drewN ?_ _) | ((refine Below.trans ?_ (Below.mono (by with_reducible assumption) ?_)); rotate_left; · (first | omega | (simp; done) | (simp; omega) | (simp at *; omega)))))⟩)
  have HE := Lib.hid (show (Sca.mk true false true mul div add).err = 0 from if_pos ho)
  clear ho
  unfold WordsBack
  have q2 := (same_clip raw (0) 4294967295 (by decide)).2
  rw [decide_eq_false (by omega)] at q2
  go_enter Try.func20, Try.ntmps20
  obtain ⟨c0, c1, c2, c3, c4, c5, hl⟩ := HB.out.all
  dsimp only at c0 c1 c2 c3 c4 c5
  go_wp2_with fail
  refine (check_at (Sca.mk true false true mul div add) _ 0 HE.out).mono ?_
  rintro e w1 ⟨rfl, hb1⟩
  have HB1 := Lib.hid (HB.out.below hb1)
  clear c0 c1 c2 c3 c4 c5 hl hb1 HB
  obtain ⟨c0, c1, c2, c3, c4, c5, hl⟩ := HB1.out.all
  dsimp only at c0 c1 c2 c3 c4 c5
  go_wp2_with fail
  refine (span_at (Sca.mk true false true mul div add) _ 4294967296 rfl).mono ?_
  rintro e w2 ⟨rfl, hb2⟩
  have HB2 := Lib.hid (HB1.out.below hb2)
  clear c0 c1 c2 c3 c4 c5 hl hb2 HB1
  obtain ⟨c0, c1, c2, c3, c4, c5, hl⟩ := HB2.out.all
  dsimp only at c0 c1 c2 c3 c4 c5
  have hbel := HB2.out.2
  go_wp2_with fail
  refine (within_any raw (0) 4294967295 _).mono ?_
  rintro e wv ⟨rfl, rfl⟩
  go_wp2_with fail
  refine bodyPost_ret (v := .tuple #[.slice (some ⟨w2.heap.size, 0, none⟩) 2 2, .int .i64 0]) ?_ rfl ⟨_, rfl, hbel.size, irow_blk (Blk.new _ _ _) ?_ rfl, by (repeat (first | (with_reducible assumption) | (with_reducible exact Below.refl _ _) | ((with_reducible refine Below.setCell ?_ ?_ _); rotate_left; · (first | omega | (simp; done) | (simp; omega) | (simp at *; omega))) | ((with_reducible refine Below.alloc ?_ ?_ _); rotate_left; · (first | omega | (simp; done) | (simp; omega) | (simp at *; omega))) | (with_reducible refine Below.drew ?_) | (with_reducible refine below_drewN ?_ _) | ((refine Below.trans ?_ (Below.mono (by with_reducible assumption) ?_)); rotate_left; · (first | omega | (simp; done) | (simp; omega) | (simp at *; omega)))))⟩
  · simp [results, Try.results20, go_sem]
  · simp [Sca.list, Sca.lift, Sca.many, u16_wrap]; try omega

set_option maxHeartbeats 1000000 in
theorem words_TTT (mul div add raw : Int) (w : World) (ho : (Sca.mk true true true mul div add).Ok) (h1 : -2147483648 ≤ raw) (h2 : raw ≤ 2147483647) :
    Calls Try.prog 20 #[.agg #[.bool true, .bool true, .bool true, .int .i64 mul, .int .i64 div, .int .i64 add], .int .i64 raw] w (WordsBack ((Sca.mk true true true mul div add).list raw) 2 w) := by
  have HB := Lib.hid (show CB w w.heap.size (Sca.mk true true true mul div add) (w.alloc (.cells #[.bool true, .bool true, .bool true, .int .i64 mul, .int .i64 div, .int .i64 add] 23)) from ⟨Blk.new _ _ _, by (repeat (first | (with_reducible assumption) | (with_reducible exact Below.refl _ _) | ((with_reducible refine Below.setCell ?_ ?_ _); rotate_left; · (first | omega | (simp; done) | (simp; omega) | (simp at *; omega))) | ((with_reducible refine Below.alloc ?_ ?_ _); rotate_left; · (first | omega | (simp; done) | (simp; omega) | (simp at *; omega))) | (with_reducible refine Below.drew ?_) | (with_reducible refine below_drewN ?_ _) | ((refine Below.trans ?_ (Below.mono (by with_reducible assumption) ?_)); rotate_left; · (first | omega | (simp; done) | (simp; omega) | (simp at *; omega)))))⟩)
  have HE := Lib.hid (show (Sca.mk true true true mul div add).err = 0 from if_pos ho)
  clear ho
  unfold WordsBack
  have q2 := (same_clip raw (-2147483648) 2147483647 (by decide)).2
  rw [decide_eq_false (by omega)] at q2
  go_enter Try.func20, Try.ntmps20
  obtain ⟨c0, c1, c2, c3, c4, c5, hl⟩ := HB.out.all
  dsimp only at c0 c1 c2 c3 c4 c5
  go_wp2_with fail
  refine (check_at (Sca.mk true true true mul div add) _ 0 HE.out).mono ?_
  rintro e w1 ⟨rfl, hb1⟩
  have HB1 := Lib.hid (HB.out.below hb1)
  clear c0 c1 c2 c3 c4 c5 hl hb1 HB
  obtain ⟨c0, c1, c2, c3, c4, c5, hl⟩ := HB1.out.all
  dsimp only at c0 c1 c2 c3 c4 c5
  go_wp2_with fail
  refine (span_at (Sca.mk true true true mul div add) _ 4294967296 rfl).mono ?_
  rintro e w2 ⟨rfl, hb2⟩
  have HB2 := Lib.hid (HB1.out.below hb2)
  clear c0 c1 c2 c3 c4 c5 hl hb2 HB1
  obtain ⟨wx, rfl⟩ : ∃ wq : World, wq = w2 := ⟨_, rfl⟩
  obtain ⟨c0, c1, c2, c3, c4, c5, hl⟩ := HB2.out.all
  dsimp only at c0 c1 c2 c3 c4 c5
  go_upto_region 6 with fail
  go_cut [7, 8] (fun s7 s8 wy => s7 = .int .i64 (-2147483648) ∧ s8 = .int .i64 2147483647 ∧ Below wx.heap.size wx wy)
  case first =>
    go_region_held3 (fun w' => w'.cell? ⟨w.heap.size, 0, none⟩ = some (.bool true) ∧ w'.cell? ⟨w.heap.size, 1, none⟩ = some (.bool true) ∧ w'.cell? ⟨w.heap.size, 2, none⟩ = some (.bool true) ∧ w'.cell? ⟨w.heap.size, 3, none⟩ = some (.int .i64 mul) ∧ w'.cell? ⟨w.heap.size, 4, none⟩ = some (.int .i64 div) ∧ w'.cell? ⟨w.heap.size, 5, none⟩ = some (.int .i64 add) ∧ Below wx.heap.size wx w')
      (first
        | exact ⟨c0, c1, c2, c3, c4, c5, (Below.refl _ _).drew⟩
        | (go_split_ands; refine ⟨(hb.cell (p := ⟨w.heap.size, 0, none⟩) (Nat.lt_of_lt_of_le hl (Below.size (by assumption)))).trans (by assumption), (hb.cell (p := ⟨w.heap.size, 1, none⟩) (Nat.lt_of_lt_of_le hl (Below.size (by assumption)))).trans (by assumption), (hb.cell (p := ⟨w.heap.size, 2, none⟩) (Nat.lt_of_lt_of_le hl (Below.size (by assumption)))).trans (by assumption), (hb.cell (p := ⟨w.heap.size, 3, none⟩) (Nat.lt_of_lt_of_le hl (Below.size (by assumption)))).trans (by assumption), (hb.cell (p := ⟨w.heap.size, 4, none⟩) (Nat.lt_of_lt_of_le hl (Below.size (by assumption)))).trans (by assumption), (hb.cell (p := ⟨w.heap.size, 5, none⟩) (Nat.lt_of_lt_of_le hl (Below.size (by assumption)))).trans (by assumption), Below.trans (by assumption) (hb.mono (Below.size (by assumption)))⟩))
      (first
        | (go_at_call 24; (try go_split_ands); (with_reducible refine (span_at (Sca.mk true true true mul div add) _ 4294967296 rfl).mono ?_); rintro e w' ⟨rfl, hb⟩; have hk : Below wx.heap.size wx w' := (by first | exact hk.trans (hb.mono hk.size) | exact (Below.refl _ _).drew.trans hb)))
    go_wp2_with fail
    go_meet
    go_split_ands
    exact ⟨rfl, rfl, by assumption⟩
  obtain ⟨rfl, rfl, hby⟩ := hcut
  obtain ⟨wy, rfl⟩ : ∃ wq : World, wq = wc := ⟨_, rfl⟩
  have HB3 := Lib.hid (HB2.out.below hby)
  clear c0 c1 c2 c3 c4 c5 hl hby HB2
  obtain ⟨c0, c1, c2, c3, c4, c5, hl⟩ := HB3.out.all
  dsimp only at c0 c1 c2 c3 c4 c5
  have hbel := HB3.out.2
  go_wp2_with fail
  refine (within_any raw (-2147483648) 2147483647 _).mono ?_
  rintro e wv ⟨rfl, rfl⟩
  go_wp2_with fail
  refine bodyPost_ret (v := .tuple #[.slice (some ⟨wy.heap.size, 0, none⟩) 2 2, .int .i64 0]) ?_ rfl ⟨_, rfl, hbel.size, irow_blk (Blk.new _ _ _) ?_ rfl, by (repeat (first | (with_reducible assumption) | (with_reducible exact Below.refl _ _) | ((with_reducible refine Below.setCell ?_ ?_ _); rotate_left; · (first | omega | (simp; done) | (simp; omega) | (simp at *; omega))) | ((with_reducible refine Below.alloc ?_ ?_ _); rotate_left; · (first | omega | (simp; done) | (simp; omega) | (simp at *; omega))) | (with_reducible refine Below.drew ?_) | (with_reducible refine below_drewN ?_ _) | ((refine Below.trans ?_ (Below.mono (by with_reducible assumption) ?_)); rotate_left; · (first | omega | (simp; done) | (simp; omega) | (simp at *; omega)))))⟩
  · simp [results, Try.results20, go_sem]
  · simp [Sca.list, Sca.lift, Sca.many, u16_wrap]; try omega
end Go.Proofs.Ytbfdecfdmigoiaa
