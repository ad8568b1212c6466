/-
  What is proved here: what Words answers, of package scale and of its reference, of any number (chapter 6); words and numbers, there and back. Conditions: each theorem's own.
-/
import Derived.Test.YtbfdecfdmigoiaaScaRWords
namespace Go.Proofs.Ytbfdecfdmigoiaa
open Go.RowKit Go.Deep

def Sca.far (s : Sca) (raw : Int) : Prop := raw < s.low ∨ s.low + s.many - 1 < raw
instance (s : Sca) (raw : Int) : Decidable (s.far raw) := by unfold Sca.far; infer_instance
def wordsTo (s : Sca) (raw : Int) : List Int × Int := if ¬ s.Ok then ([], 25) else if s.far raw then ([], 3) else (s.list raw, 0)
/-- words in memory of their own, or none. -/
def WordsAll (L : List Int) (n : Int) (w : World) (e : Ending) (w' : World) : Prop :=
  ∃ A cap, e = .returned (.tuple #[.slice A L.length cap, .int .i64 n]) ∧ IntsAt .u16 w' A L ∧ Row .u16 41 w' (.slice A L.length cap) L.length ∧ (∀ b, (Value.slice A L.length cap).ownBlock = some b → w.heap.size ≤ b) ∧ Below w.heap.size w w'
theorem wordsAll_back {L : List Int} {m : Nat} {w w' : World} {e : Ending} (h : WordsBack L m w e w') (hm : L.length = m) (h2 : m ≤ 2) : WordsAll L 0 w e w' := by
  subst hm
  obtain ⟨g, rfl, hg, hr, hb⟩ := h
  exact ⟨_, _, rfl, hr.at_, .inr ⟨g, _, rfl, Nat.le_refl _, by omega, hr.bare⟩, fun b e => (by cases e; exact hg), hb⟩
theorem wordsAll_nil {n : Int} {w w' : World} {e : Ending} (he : e = .returned (.tuple #[.slice none 0 0, .int .i64 n])) (hb : Below w.heap.size w w') : WordsAll [] n w e w' :=
  ⟨none, 0, he, IntsAt.nil_ _ _ _, .inl ⟨rfl, rfl⟩, fun b e => (by cases e), hb⟩
def NilBack (n : Int) (w : World) (e : Ending) (w' : World) : Prop := e = .returned (.tuple #[.slice none 0 0, .int .i64 n]) ∧ Below w.heap.size w w'

set_option maxHeartbeats 1000000 in
theorem words_bad (s : Sca) (raw : Int) (w : World) (ho : ¬ s.Ok) :
    Calls Try.prog 20 #[.agg #[.bool s.wide, .bool s.signed, .bool s.swap, .int .i64 s.mul, .int .i64 s.div, .int .i64 s.add], .int .i64 raw] w (NilBack 25 w) := by
  have HE := Lib.hid (show s.err = 25 from if_neg ho)
  have HB := Lib.hid (show CB w w.heap.size s (w.alloc (.cells #[.bool s.wide, .bool s.signed, .bool s.swap, .int .i64 s.mul, .int .i64 s.div, .int .i64 s.add] 23)) from ⟨Blk.new _ _ _, by (repeat (first | (with_reducible assumption) | (with_reducible exact Below.refl _ _) | ((with_reducible refine Below.setCell ?_ ?_ _); rotate_left; · (first | omega | (simp; done) | (simp; omega) | (simp at *; omega))) | ((with_reducible refine Below.alloc ?_ ?_ _); rotate_left; · (first | omega | (simp; done) | (simp; omega) | (simp at *; omega))) | (with_reducible refine Below.drew ?_) | (with_reducible refine below_drewN ?_ _) | ((refine Below.trans ?_ (Below.mono (by with_reducible assumption) ?_)); rotate_left; · (first | omega | (simp; done) | (simp; omega) | (simp at *; omega)))))⟩)
  clear ho
  unfold NilBack
  go_enter Try.func20, Try.ntmps20
  obtain ⟨c0, c1, c2, c3, c4, c5, hl⟩ := HB.out.all
  go_wp2_with fail
  refine (check_at s _ 25 HE.out).mono ?_
  rintro e w1 ⟨rfl, hb1⟩
  go_wp2_with fail
  refine bodyPost_ret (v := .tuple #[.slice none 0 0, .int .i64 25]) ?_ rfl ⟨rfl, by (repeat (first | (with_reducible assumption) | (with_reducible exact Below.refl _ _) | ((with_reducible refine Below.setCell ?_ ?_ _); rotate_left; · (first | omega | (simp; done) | (simp; omega) | (simp at *; omega))) | ((with_reducible refine Below.alloc ?_ ?_ _); rotate_left; · (first | omega | (simp; done) | (simp; omega) | (simp at *; omega))) | (with_reducible refine Below.drew ?_) | (with_reducible refine below_drewN ?_ _) | ((refine Below.trans ?_ (Below.mono (by with_reducible assumption) ?_)); rotate_left; · (first | omega | (simp; done) | (simp; omega) | (simp at *; omega)))))⟩
  simp [results, Try.results20, go_sem]

set_option maxHeartbeats 1000000 in
theorem words_farFF (swap : Bool) (mul div add raw : Int) (w : World) (ho : (Sca.mk false false swap mul div add).Ok) (hr : raw < 0 ∨ 65535 < raw) :
    Calls Try.prog 20 #[.agg #[.bool false, .bool false, .bool swap, .int .i64 mul, .int .i64 div, .int .i64 add], .int .i64 raw] w (NilBack 3 w) := by
  have HB := Lib.hid (show CB w w.heap.size (Sca.mk false false swap mul div add) (w.alloc (.cells #[.bool false, .bool false, .bool swap, .int .i64 mul, .int .i64 div, .int .i64 add] 23)) from ⟨Blk.new _ _ _, by (repeat (first | (with_reducible assumption) | (with_reducible exact Below.refl _ _) | ((with_reducible refine Below.setCell ?_ ?_ _); rotate_left; · (first | omega | (simp; done) | (simp; omega) | (simp at *; omega))) | ((with_reducible refine Below.alloc ?_ ?_ _); rotate_left; · (first | omega | (simp; done) | (simp; omega) | (simp at *; omega))) | (with_reducible refine Below.drew ?_) | (with_reducible refine below_drewN ?_ _) | ((refine Below.trans ?_ (Below.mono (by with_reducible assumption) ?_)); rotate_left; · (first | omega | (simp; done) | (simp; omega) | (simp at *; omega)))))⟩)
  have HE := Lib.hid (show (Sca.mk false false swap mul div add).err = 0 from if_pos ho)
  clear ho
  unfold NilBack
  have q2 := (same_clip raw (0) 65535 (by decide)).2
  rw [decide_eq_true hr] at q2
  clear hr
  go_enter Try.func20, Try.ntmps20
  obtain ⟨c0, c1, c2, c3, c4, c5, hl⟩ := HB.out.all
  dsimp only at c0 c1 c2 c3 c4 c5
  go_wp2_with fail
  refine (check_at (Sca.mk false false swap mul div add) _ 0 HE.out).mono ?_
  rintro e w1 ⟨rfl, hb1⟩
  have HB1 := Lib.hid (HB.out.below hb1)
  clear c0 c1 c2 c3 c4 c5 hl hb1 HB
  obtain ⟨c0, c1, c2, c3, c4, c5, hl⟩ := HB1.out.all
  dsimp only at c0 c1 c2 c3 c4 c5
  go_wp2_with fail
  refine (span_at (Sca.mk false false swap mul div add) _ 65536 rfl).mono ?_
  rintro e w2 ⟨rfl, hb2⟩
  have HB2 := Lib.hid (HB1.out.below hb2)
  clear c0 c1 c2 c3 c4 c5 hl hb2 HB1
  obtain ⟨c0, c1, c2, c3, c4, c5, hl⟩ := HB2.out.all
  dsimp only at c0 c1 c2 c3 c4 c5
  have hbel := HB2.out.2
  go_wp2_with fail
  refine (within_any raw (0) 65535 _).mono ?_
  rintro e wv ⟨rfl, rfl⟩
  go_wp2_with fail
  refine bodyPost_ret (v := .tuple #[.slice none 0 0, .int .i64 3]) ?_ rfl ⟨rfl, by (repeat (first | (with_reducible assumption) | (with_reducible exact Below.refl _ _) | ((with_reducible refine Below.setCell ?_ ?_ _); rotate_left; · (first | omega | (simp; done) | (simp; omega) | (simp at *; omega))) | ((with_reducible refine Below.alloc ?_ ?_ _); rotate_left; · (first | omega | (simp; done) | (simp; omega) | (simp at *; omega))) | (with_reducible refine Below.drew ?_) | (with_reducible refine below_drewN ?_ _) | ((refine Below.trans ?_ (Below.mono (by with_reducible assumption) ?_)); rotate_left; · (first | omega | (simp; done) | (simp; omega) | (simp at *; omega)))))⟩
  simp [results, Try.results20, go_sem]

set_option maxHeartbeats 1000000 in
theorem words_farTF (swap : Bool) (mul div add raw : Int) (w : World) (ho : (Sca.mk true false swap mul div add).Ok) (hr : raw < 0 ∨ 4294967295 < raw) :
    Calls Try.prog 20 #[.agg #[.bool true, .bool false, .bool swap, .int .i64 mul, .int .i64 div, .int .i64 add], .int .i64 raw] w (NilBack 3 w) := by
  have HB := Lib.hid (show CB w w.heap.size (Sca.mk true false swap mul div add) (w.alloc (.cells #[.bool true, .bool false, .bool swap, .int .i64 mul, .int .i64 div, .int .i64 add] 23)) from ⟨Blk.new _ _ _, by (repeat (first | (with_reducible assumption) | (with_reducible exact Below.refl _ _) | ((with_reducible refine Below.setCell ?_ ?_ _); rotate_left; · (first | omega | (simp; done) | (simp; omega) | (simp at *; omega))) | ((with_reducible refine Below.alloc ?_ ?_ _); rotate_left; · (first | omega | (simp; done) | (simp; omega) | (simp at *; omega))) | (with_reducible refine Below.drew ?_) | (with_reducible refine below_drewN ?_ _) | ((refine Below.trans ?_ (Below.mono (by with_reducible assumption) ?_)); rotate_left; · (first | omega | (simp; done) | (simp; omega) | (simp at *; omega)))))⟩)
  have HE := Lib.hid (show (Sca.mk true false swap mul div add).err = 0 from if_pos ho)
  clear ho
  unfold NilBack
  have q2 := (same_clip raw (0) 4294967295 (by decide)).2
  rw [decide_eq_true hr] at q2
  clear hr
  go_enter Try.func20, Try.ntmps20
  obtain ⟨c0, c1, c2, c3, c4, c5, hl⟩ := HB.out.all
  dsimp only at c0 c1 c2 c3 c4 c5
  go_wp2_with fail
  refine (check_at (Sca.mk true false swap mul div add) _ 0 HE.out).mono ?_
  rintro e w1 ⟨rfl, hb1⟩
  have HB1 := Lib.hid (HB.out.below hb1)
  clear c0 c1 c2 c3 c4 c5 hl hb1 HB
  obtain ⟨c0, c1, c2, c3, c4, c5, hl⟩ := HB1.out.all
  dsimp only at c0 c1 c2 c3 c4 c5
  go_wp2_with fail
  refine (span_at (Sca.mk true false swap mul div add) _ 4294967296 rfl).mono ?_
  rintro e w2 ⟨rfl, hb2⟩
  have HB2 := Lib.hid (HB1.out.below hb2)
  clear c0 c1 c2 c3 c4 c5 hl hb2 HB1
  obtain ⟨c0, c1, c2, c3, c4, c5, hl⟩ := HB2.out.all
  dsimp only at c0 c1 c2 c3 c4 c5
  have hbel := HB2.out.2
  go_wp2_with fail
  refine (within_any raw (0) 4294967295 _).mono ?_
  rintro e wv ⟨rfl, rfl⟩
  go_wp2_with fail
  refine bodyPost_ret (v := .tuple #[.slice none 0 0, .int .i64 3]) ?_ rfl ⟨rfl, by (repeat (first | (with_reducible assumption) | (with_reducible exact Below.refl _ _) | ((with_reducible refine Below.setCell ?_ ?_ _); rotate_left; · (first | omega | (simp; done) | (simp; omega) | (simp at *; omega))) | ((with_reducible refine Below.alloc ?_ ?_ _); rotate_left; · (first | omega | (simp; done) | (simp; omega) | (simp at *; omega))) | (with_reducible refine Below.drew ?_) | (with_reducible refine below_drewN ?_ _) | ((refine Below.trans ?_ (Below.mono (by with_reducible assumption) ?_)); rotate_left; · (first | omega | (simp; done) | (simp; omega) | (simp at *; omega)))))⟩
  simp [results, Try.results20, go_sem]

set_option maxHeartbeats 1000000 in
theorem words_farFT (swap : Bool) (mul div add raw : Int) (w : World) (ho : (Sca.mk false true swap mul div add).Ok) (hr : raw < -32768 ∨ 32767 < raw) :
    Calls Try.prog 20 #[.agg #[.bool false, .bool true, .bool swap, .int .i64 mul, .int .i64 div, .int .i64 add], .int .i64 raw] w (NilBack 3 w) := by
  have HB := Lib.hid (show CB w w.heap.size (Sca.mk false true swap mul div add) (w.alloc (.cells #[.bool false, .bool true, .bool swap, .int .i64 mul, .int .i64 div, .int .i64 add] 23)) from ⟨Blk.new _ _ _, by (repeat (first | (with_reducible assumption) | (with_reducible exact Below.refl _ _) | ((with_reducible refine Below.setCell ?_ ?_ _); rotate_left; · (first | omega | (simp; done) | (simp; omega) | (simp at *; omega))) | ((with_reducible refine Below.alloc ?_ ?_ _); rotate_left; · (first | omega | (simp; done) | (simp; omega) | (simp at *; omega))) | (with_reducible refine Below.drew ?_) | (with_reducible refine below_drewN ?_ _) | ((refine Below.trans ?_ (Below.mono (by with_reducible assumption) ?_)); rotate_left; · (first | omega | (simp; done) | (simp; omega) | (simp at *; omega)))))⟩)
  have HE := Lib.hid (show (Sca.mk false true swap mul div add).err = 0 from if_pos ho)
  clear ho
  unfold NilBack
  have q2 := (same_clip raw (-32768) 32767 (by decide)).2
  rw [decide_eq_true hr] at q2
  clear hr
  go_enter Try.func20, Try.ntmps20
  obtain ⟨c0, c1, c2, c3, c4, c5, hl⟩ := HB.out.all
  dsimp only at c0 c1 c2 c3 c4 c5
  go_wp2_with fail
  refine (check_at (Sca.mk false true swap mul div add) _ 0 HE.out).mono ?_
  rintro e w1 ⟨rfl, hb1⟩
  have HB1 := Lib.hid (HB.out.below hb1)
  clear c0 c1 c2 c3 c4 c5 hl hb1 HB
  obtain ⟨c0, c1, c2, c3, c4, c5, hl⟩ := HB1.out.all
  dsimp only at c0 c1 c2 c3 c4 c5
  go_wp2_with fail
  refine (span_at (Sca.mk false true swap mul div add) _ 65536 rfl).mono ?_
  rintro e w2 ⟨rfl, hb2⟩
  have HB2 := Lib.hid (HB1.out.below hb2)
  clear c0 c1 c2 c3 c4 c5 hl hb2 HB1
  obtain ⟨wx, rfl⟩ : ∃ wq : World, wq = w2 := ⟨_, rfl⟩
  obtain ⟨c0, c1, c2, c3, c4, c5, hl⟩ := HB2.out.all
  dsimp only at c0 c1 c2 c3 c4 c5
  go_upto_region 6 with fail
  go_cut [7, 8] (fun s7 s8 wy => s7 = .int .i64 (-32768) ∧ s8 = .int .i64 32767 ∧ Below wx.heap.size wx wy)
  case first =>
    go_region_held3 (fun w' => w'.cell? ⟨w.heap.size, 0, none⟩ = some (.bool false) ∧ w'.cell? ⟨w.heap.size, 1, none⟩ = some (.bool true) ∧ w'.cell? ⟨w.heap.size, 2, none⟩ = some (.bool swap) ∧ w'.cell? ⟨w.heap.size, 3, none⟩ = some (.int .i64 mul) ∧ w'.cell? ⟨w.heap.size, 4, none⟩ = some (.int .i64 div) ∧ w'.cell? ⟨w.heap.size, 5, none⟩ = some (.int .i64 add) ∧ Below wx.heap.size wx w')
      (first
        | exact ⟨c0, c1, c2, c3, c4, c5, (Below.refl _ _).drew⟩
        | (go_split_ands; refine ⟨(hb.cell (p := ⟨w.heap.size, 0, none⟩) (Nat.lt_of_lt_of_le hl (Below.size (by assumption)))).trans (by assumption), (hb.cell (p := ⟨w.heap.size, 1, none⟩) (Nat.lt_of_lt_of_le hl (Below.size (by assumption)))).trans (by assumption), (hb.cell (p := ⟨w.heap.size, 2, none⟩) (Nat.lt_of_lt_of_le hl (Below.size (by assumption)))).trans (by assumption), (hb.cell (p := ⟨w.heap.size, 3, none⟩) (Nat.lt_of_lt_of_le hl (Below.size (by assumption)))).trans (by assumption), (hb.cell (p := ⟨w.heap.size, 4, none⟩) (Nat.lt_of_lt_of_le hl (Below.size (by assumption)))).trans (by assumption), (hb.cell (p := ⟨w.heap.size, 5, none⟩) (Nat.lt_of_lt_of_le hl (Below.size (by assumption)))).trans (by assumption), Below.trans (by assumption) (hb.mono (Below.size (by assumption)))⟩))
      (first
        | (go_at_call 24; (try go_split_ands); (with_reducible refine (span_at (Sca.mk false true swap mul div add) _ 65536 rfl).mono ?_); rintro e w' ⟨rfl, hb⟩; have hk : Below wx.heap.size wx w' := (by first | exact hk.trans (hb.mono hk.size) | exact (Below.refl _ _).drew.trans hb)))
    go_wp2_with fail
    go_meet
    go_split_ands
    exact ⟨rfl, rfl, by assumption⟩
  obtain ⟨rfl, rfl, hby⟩ := hcut
  obtain ⟨wy, rfl⟩ : ∃ wq : World, wq = wc := ⟨_, rfl⟩
  have HB3 := Lib.hid (HB2.out.below hby)
  clear c0 c1 c2 c3 c4 c5 hl hby HB2
  obtain ⟨c0, c1, c2, c3, c4, c5, hl⟩ := HB3.out.all
  dsimp only at c0 c1 c2 c3 c4 c5
  have hbel := HB3.out.2
  go_wp2_with fail
  refine (within_any raw (-32768) 32767 _).mono ?_
  rintro e wv ⟨rfl, rfl⟩
  go_wp2_with fail
  refine bodyPost_ret (v := .tuple #[.slice none 0 0, .int .i64 3]) ?_ rfl ⟨rfl, by (repeat (first | (with_reducible assumption) | (with_reducible exact Below.refl _ _) | ((with_reducible refine Below.setCell ?_ ?_ _); rotate_left; · (first | omega | (simp; done) | (simp; omega) | (simp at *; omega))) | ((with_reducible refine Below.alloc ?_ ?_ _); rotate_left; · (first | omega | (simp; done) | (simp; omega) | (simp at *; omega))) | (with_reducible refine Below.drew ?_) | (with_reducible refine below_drewN ?_ _) | ((refine Below.trans ?_ (Below.mono (by with_reducible assumption) ?_)); rotate_left; · (first | omega | (simp; done) | (simp; omega) | (simp at *; omega)))))⟩
  simp [results, Try.results20, go_sem]

set_option maxHeartbeats 1000000 in
theorem words_farTT (swap : Bool) (mul div add raw : Int) (w : World) (ho : (Sca.mk true true swap mul div add).Ok) (hr : raw < -2147483648 ∨ 2147483647 < raw) :
    Calls Try.prog 20 #[.agg #[.bool true, .bool true, .bool swap, .int .i64 mul, .int .i64 div, .int .i64 add], .int .i64 raw] w (NilBack 3 w) := by
  have HB := Lib.hid (show CB w w.heap.size (Sca.mk true true swap mul div add) (w.alloc (.cells #[.bool true, .bool true, .bool swap, .int .i64 mul, .int .i64 div, .int .i64 add] 23)) from ⟨Blk.new _ _ _, by (repeat (first | (with_reducible assumption) | (with_reducible exact Below.refl _ _) | ((with_reducible refine Below.setCell ?_ ?_ _); rotate_left; · (first | omega | (simp; done) | (simp; omega) | (simp at *; omega))) | ((with_reducible refine Below.alloc ?_ ?_ _); rotate_left; · (first | omega | (simp; done) | (simp; omega) | (simp at *; omega))) | (with_reducible refine Below.drew ?_) | (with_reducible refine below_drewN ?_ _) | ((refine Below.trans ?_ (Below.mono (by with_reducible assumption) ?_)); rotate_left; · (first | omega | (simp; done) | (simp; omega) | (simp at *; omega)))))⟩)
  have HE := Lib.hid (show (Sca.mk true true swap mul div add).err = 0 from if_pos ho)
  clear ho
  unfold NilBack
  have q2 := (same_clip raw (-2147483648) 2147483647 (by decide)).2
  rw [decide_eq_true hr] at q2
  clear hr
  go_enter Try.func20, Try.ntmps20
  obtain ⟨c0, c1, c2, c3, c4, c5, hl⟩ := HB.out.all
  dsimp only at c0 c1 c2 c3 c4 c5
  go_wp2_with fail
  refine (check_at (Sca.mk true true swap mul div add) _ 0 HE.out).mono ?_
  rintro e w1 ⟨rfl, hb1⟩
  have HB1 := Lib.hid (HB.out.below hb1)
  clear c0 c1 c2 c3 c4 c5 hl hb1 HB
  obtain ⟨c0, c1, c2, c3, c4, c5, hl⟩ := HB1.out.all
  dsimp only at c0 c1 c2 c3 c4 c5
  go_wp2_with fail
  refine (span_at (Sca.mk true true swap mul div add) _ 4294967296 rfl).mono ?_
  rintro e w2 ⟨rfl, hb2⟩
  have HB2 := Lib.hid (HB1.out.below hb2)
  clear c0 c1 c2 c3 c4 c5 hl hb2 HB1
  obtain ⟨wx, rfl⟩ : ∃ wq : World, wq = w2 := ⟨_, rfl⟩
  obtain ⟨c0, c1, c2, c3, c4, c5, hl⟩ := HB2.out.all
  dsimp only at c0 c1 c2 c3 c4 c5
  go_upto_region 6 with fail
  go_cut [7, 8] (fun s7 s8 wy => s7 = .int .i64 (-2147483648) ∧ s8 = .int .i64 2147483647 ∧ Below wx.heap.size wx wy)
  case first =>
    go_region_held3 (fun w' => w'.cell? ⟨w.heap.size, 0, none⟩ = some (.bool true) ∧ w'.cell? ⟨w.heap.size, 1, none⟩ = some (.bool true) ∧ w'.cell? ⟨w.heap.size, 2, none⟩ = some (.bool swap) ∧ w'.cell? ⟨w.heap.size, 3, none⟩ = some (.int .i64 mul) ∧ w'.cell? ⟨w.heap.size, 4, none⟩ = some (.int .i64 div) ∧ w'.cell? ⟨w.heap.size, 5, none⟩ = some (.int .i64 add) ∧ Below wx.heap.size wx w')
      (first
        | exact ⟨c0, c1, c2, c3, c4, c5, (Below.refl _ _).drew⟩
        | (go_split_ands; refine ⟨(hb.cell (p := ⟨w.heap.size, 0, none⟩) (Nat.lt_of_lt_of_le hl (Below.size (by assumption)))).trans (by assumption), (hb.cell (p := ⟨w.heap.size, 1, none⟩) (Nat.lt_of_lt_of_le hl (Below.size (by assumption)))).trans (by assumption), (hb.cell (p := ⟨w.heap.size, 2, none⟩) (Nat.lt_of_lt_of_le hl (Below.size (by assumption)))).trans (by assumption), (hb.cell (p := ⟨w.heap.size, 3, none⟩) (Nat.lt_of_lt_of_le hl (Below.size (by assumption)))).trans (by assumption), (hb.cell (p := ⟨w.heap.size, 4, none⟩) (Nat.lt_of_lt_of_le hl (Below.size (by assumption)))).trans (by assumption), (hb.cell (p := ⟨w.heap.size, 5, none⟩) (Nat.lt_of_lt_of_le hl (Below.size (by assumption)))).trans (by assumption), Below.trans (by assumption) (hb.mono (Below.size (by assumption)))⟩))
      (first
        | (go_at_call 24; (try go_split_ands); (with_reducible refine (span_at (Sca.mk true true swap mul div add) _ 4294967296 rfl).mono ?_); rintro e w' ⟨rfl, hb⟩; have hk : Below wx.heap.size wx w' := (by first | exact hk.trans (hb.mono hk.size) | exact (Below.refl _ _).drew.trans hb)))
    go_wp2_with fail
    go_meet
    go_split_ands
    exact ⟨rfl, rfl, by assumption⟩
  obtain ⟨rfl, rfl, hby⟩ := hcut
  obtain ⟨wy, rfl⟩ : ∃ wq : World, wq = wc := ⟨_, rfl⟩
  have HB3 := Lib.hid (HB2.out.below hby)
  clear c0 c1 c2 c3 c4 c5 hl hby HB2
  obtain ⟨c0, c1, c2, c3, c4, c5, hl⟩ := HB3.out.all
  dsimp only at c0 c1 c2 c3 c4 c5
  have hbel := HB3.out.2
  go_wp2_with fail
  refine (within_any raw (-2147483648) 2147483647 _).mono ?_
  rintro e wv ⟨rfl, rfl⟩
  go_wp2_with fail
  refine bodyPost_ret (v := .tuple #[.slice none 0 0, .int .i64 3]) ?_ rfl ⟨rfl, by (repeat (first | (with_reducible assumption) | (with_reducible exact Below.refl _ _) | ((with_reducible refine Below.setCell ?_ ?_ _); rotate_left; · (first | omega | (simp; done) | (simp; omega) | (simp at *; omega))) | ((with_reducible refine Below.alloc ?_ ?_ _); rotate_left; · (first | omega | (simp; done) | (simp; omega) | (simp at *; omega))) | (with_reducible refine Below.drew ?_) | (with_reducible refine below_drewN ?_ _) | ((refine Below.trans ?_ (Below.mono (by with_reducible assumption) ?_)); rotate_left; · (first | omega | (simp; done) | (simp; omega) | (simp at *; omega)))))⟩
  simp [results, Try.results20, go_sem]

theorem words_all (s : Sca) (raw : Int) (w : World) :
    Calls Try.prog 20 #[.agg #[.bool s.wide, .bool s.signed, .bool s.swap, .int .i64 s.mul, .int .i64 s.div, .int .i64 s.add], .int .i64 raw] w (WordsAll (wordsTo s raw).1 (wordsTo s raw).2 w) := by
  by_cases ho : s.Ok
  rotate_left
  · have e : wordsTo s raw = ([], 25) := if_pos ho
    rw [e]
    exact (words_bad s raw w ho).mono fun _ _ h => wordsAll_nil h.1 h.2
  by_cases hf : s.far raw
  · have e : wordsTo s raw = ([], 3) := by unfold wordsTo; rw [if_neg (by simp [ho]), if_pos hf]
    rw [e]
    obtain ⟨wide, signed, swap, mul, div, add⟩ := s
    cases wide <;> cases signed
    · exact (words_farFF swap mul div add raw w ho (by simpa [Sca.far, Sca.low, Sca.many] using hf)).mono fun _ _ h => wordsAll_nil h.1 h.2
    · exact (words_farFT swap mul div add raw w ho (by simpa [Sca.far, Sca.low, Sca.many] using hf)).mono fun _ _ h => wordsAll_nil h.1 h.2
    · exact (words_farTF swap mul div add raw w ho (by simpa [Sca.far, Sca.low, Sca.many] using hf)).mono fun _ _ h => wordsAll_nil h.1 h.2
    · exact (words_farTT swap mul div add raw w ho (by simpa [Sca.far, Sca.low, Sca.many] using hf)).mono fun _ _ h => wordsAll_nil h.1 h.2
  · have e : wordsTo s raw = (s.list raw, 0) := by unfold wordsTo; rw [if_neg (by simp [ho]), if_neg hf]
    rw [e]
    obtain ⟨wide, signed, swap, mul, div, add⟩ := s
    cases wide <;> cases swap <;> cases signed <;> simp [Sca.far, Sca.low, Sca.many] at hf
    · exact (words_FFF mul div add raw w ho (by omega) (by omega)).mono fun _ _ h => wordsAll_back h rfl (by omega)
    · exact (words_FFT mul div add raw w ho (by omega) (by omega)).mono fun _ _ h => wordsAll_back h rfl (by omega)
    · exact absurd (ho.2.2.2.2 rfl) (by simp)
    · exact absurd (ho.2.2.2.2 rfl) (by simp)
    · exact (words_TFF mul div add raw w ho (by omega) (by omega)).mono fun _ _ h => wordsAll_back h rfl (by omega)
    · exact (words_TFT mul div add raw w ho (by omega) (by omega)).mono fun _ _ h => wordsAll_back h rfl (by omega)
    · exact (words_TTF mul div add raw w ho (by omega) (by omega)).mono fun _ _ h => wordsAll_back h rfl (by omega)
    · exact (words_TTT mul div add raw w ho (by omega) (by omega)).mono fun _ _ h => wordsAll_back h rfl (by omega)

set_option maxHeartbeats 1000000 in
theorem rwords_bad (s : Sca) (raw : Int) (w : World) (ho : ¬ s.Ok) :
    Calls Try.prog 21 #[.agg #[.bool s.wide, .bool s.signed, .bool s.swap, .int .i64 s.mul, .int .i64 s.div, .int .i64 s.add], .int .i64 raw] w (NilBack 25 w) := by
  have HE := Lib.hid (show s.err = 25 from if_neg ho)
  have HB := Lib.hid (show CB w w.heap.size s (w.alloc (.cells #[.bool s.wide, .bool s.signed, .bool s.swap, .int .i64 s.mul, .int .i64 s.div, .int .i64 s.add] 23)) from ⟨Blk.new _ _ _, by (repeat (first | (with_reducible assumption) | (with_reducible exact Below.refl _ _) | ((with_reducible refine Below.setCell ?_ ?_ _); rotate_left; · (first | omega | (simp; done) | (simp; omega) | (simp at *; omega))) | ((with_reducible refine Below.alloc ?_ ?_ _); rotate_left; · (first | omega | (simp; done) | (simp; omega) | (simp at *; omega))) | (with_reducible refine Below.drew ?_) | (with_reducible refine below_drewN ?_ _) | ((refine Below.trans ?_ (Below.mono (by with_reducible assumption) ?_)); rotate_left; · (first | omega | (simp; done) | (simp; omega) | (simp at *; omega)))))⟩)
  clear ho
  unfold NilBack
  go_enter Try.func21, Try.ntmps21
  obtain ⟨c0, c1, c2, c3, c4, c5, hl⟩ := HB.out.all
  go_wp2_with fail
  refine (rcheck_at s _ 25 HE.out).mono ?_
  rintro e w1 ⟨rfl, hb1⟩
  go_wp2_with fail
  refine bodyPost_ret (v := .tuple #[.slice none 0 0, .int .i64 25]) ?_ rfl ⟨rfl, by (repeat (first | (with_reducible assumption) | (with_reducible exact Below.refl _ _) | ((with_reducible refine Below.setCell ?_ ?_ _); rotate_left; · (first | omega | (simp; done) | (simp; omega) | (simp at *; omega))) | ((with_reducible refine Below.alloc ?_ ?_ _); rotate_left; · (first | omega | (simp; done) | (simp; omega) | (simp at *; omega))) | (with_reducible refine Below.drew ?_) | (with_reducible refine below_drewN ?_ _) | ((refine Below.trans ?_ (Below.mono (by with_reducible assumption) ?_)); rotate_left; · (first | omega | (simp; done) | (simp; omega) | (simp at *; omega)))))⟩
  simp [results, Try.results21, go_sem]

set_option maxHeartbeats 1000000 in
theorem rwords_farFF (swap : Bool) (mul div add raw : Int) (w : World) (ho : (Sca.mk false false swap mul div add).Ok) (hr : raw < 0 ∨ 65535 < raw) :
    Calls Try.prog 21 #[.agg #[.bool false, .bool false, .bool swap, .int .i64 mul, .int .i64 div, .int .i64 add], .int .i64 raw] w (NilBack 3 w) := by
  have HB := Lib.hid (show CB w w.heap.size (Sca.mk false false swap mul div add) (w.alloc (.cells #[.bool false, .bool false, .bool swap, .int .i64 mul, .int .i64 div, .int .i64 add] 23)) from ⟨Blk.new _ _ _, by (repeat (first | (with_reducible assumption) | (with_reducible exact Below.refl _ _) | ((with_reducible refine Below.setCell ?_ ?_ _); rotate_left; · (first | omega | (simp; done) | (simp; omega) | (simp at *; omega))) | ((with_reducible refine Below.alloc ?_ ?_ _); rotate_left; · (first | omega | (simp; done) | (simp; omega) | (simp at *; omega))) | (with_reducible refine Below.drew ?_) | (with_reducible refine below_drewN ?_ _) | ((refine Below.trans ?_ (Below.mono (by with_reducible assumption) ?_)); rotate_left; · (first | omega | (simp; done) | (simp; omega) | (simp at *; omega)))))⟩)
  have HE := Lib.hid (show (Sca.mk false false swap mul div add).err = 0 from if_pos ho)
  clear ho
  unfold NilBack
  rcases (show raw < 0 ∨ (¬ raw < 0 ∧ 65535 < raw) by omega) with h1 | ⟨h1, h2⟩
  · have t1 : decide (raw < 0) = true := decide_eq_true h1
    clear hr
    go_enter Try.func21, Try.ntmps21
    obtain ⟨c0, c1, c2, c3, c4, c5, hl⟩ := HB.out.all
    dsimp only at c0 c1 c2 c3 c4 c5
    go_wp2_with fail
    refine (rcheck_at (Sca.mk false false swap mul div add) _ 0 HE.out).mono ?_
    rintro e w1 ⟨rfl, hb1⟩
    have HB1 := Lib.hid (HB.out.below hb1)
    clear c0 c1 c2 c3 c4 c5 hl hb1 HB
    obtain ⟨c0, c1, c2, c3, c4, c5, hl⟩ := HB1.out.all
    dsimp only at c0 c1 c2 c3 c4 c5
    have hbel := HB1.out.2
    go_wp2_with fail
    refine bodyPost_ret (v := .tuple #[.slice none 0 0, .int .i64 3]) ?_ rfl ⟨rfl, by (repeat (first | (with_reducible assumption) | (with_reducible exact Below.refl _ _) | ((with_reducible refine Below.setCell ?_ ?_ _); rotate_left; · (first | omega | (simp; done) | (simp; omega) | (simp at *; omega))) | ((with_reducible refine Below.alloc ?_ ?_ _); rotate_left; · (first | omega | (simp; done) | (simp; omega) | (simp at *; omega))) | (with_reducible refine Below.drew ?_) | (with_reducible refine below_drewN ?_ _) | ((refine Below.trans ?_ (Below.mono (by with_reducible assumption) ?_)); rotate_left; · (first | omega | (simp; done) | (simp; omega) | (simp at *; omega)))))⟩
    simp [results, Try.results21, go_sem]
  · have t1 : decide (raw < 0) = false := decide_eq_false h1
    have t2 : decide (65535 < raw) = true := decide_eq_true h2
    clear hr
    go_enter Try.func21, Try.ntmps21
    obtain ⟨c0, c1, c2, c3, c4, c5, hl⟩ := HB.out.all
    dsimp only at c0 c1 c2 c3 c4 c5
    go_wp2_with fail
    refine (rcheck_at (Sca.mk false false swap mul div add) _ 0 HE.out).mono ?_
    rintro e w1 ⟨rfl, hb1⟩
    have HB1 := Lib.hid (HB.out.below hb1)
    clear c0 c1 c2 c3 c4 c5 hl hb1 HB
    obtain ⟨c0, c1, c2, c3, c4, c5, hl⟩ := HB1.out.all
    dsimp only at c0 c1 c2 c3 c4 c5
    have hbel := HB1.out.2
    go_wp2_with fail
    refine (many_at (Sca.mk false false swap mul div add) _ 65536 rfl).mono ?_
    rintro e w2 ⟨rfl, hb2⟩
    have HB2 := Lib.hid (HB1.out.below hb2)
    clear c0 c1 c2 c3 c4 c5 hl hb2 HB1 hbel
    obtain ⟨c0, c1, c2, c3, c4, c5, hl⟩ := HB2.out.all
    dsimp only at c0 c1 c2 c3 c4 c5
    have hbel := HB2.out.2
    go_wp2_with fail
    refine bodyPost_ret (v := .tuple #[.slice none 0 0, .int .i64 3]) ?_ rfl ⟨rfl, by (repeat (first | (with_reducible assumption) | (with_reducible exact Below.refl _ _) | ((with_reducible refine Below.setCell ?_ ?_ _); rotate_left; · (first | omega | (simp; done) | (simp; omega) | (simp at *; omega))) | ((with_reducible refine Below.alloc ?_ ?_ _); rotate_left; · (first | omega | (simp; done) | (simp; omega) | (simp at *; omega))) | (with_reducible refine Below.drew ?_) | (with_reducible refine below_drewN ?_ _) | ((refine Below.trans ?_ (Below.mono (by with_reducible assumption) ?_)); rotate_left; · (first | omega | (simp; done) | (simp; omega) | (simp at *; omega)))))⟩
    simp [results, Try.results21, go_sem]

set_option maxHeartbeats 1000000 in
theorem rwords_farTF (swap : Bool) (mul div add raw : Int) (w : World) (ho : (Sca.mk true false swap mul div add).Ok) (hr : raw < 0 ∨ 4294967295 < raw) :
    Calls Try.prog 21 #[.agg #[.bool true, .bool false, .bool swap, .int .i64 mul, .int .i64 div, .int .i64 add], .int .i64 raw] w (NilBack 3 w) := by
  have HB := Lib.hid (show CB w w.heap.size (Sca.mk true false swap mul div add) (w.alloc (.cells #[.bool true, .bool false, .bool swap, .int .i64 mul, .int .i64 div, .int .i64 add] 23)) from ⟨Blk.new _ _ _, by (repeat (first | (with_reducible assumption) | (with_reducible exact Below.refl _ _) | ((with_reducible refine Below.setCell ?_ ?_ _); rotate_left; · (first | omega | (simp; done) | (simp; omega) | (simp at *; omega))) | ((with_reducible refine Below.alloc ?_ ?_ _); rotate_left; · (first | omega | (simp; done) | (simp; omega) | (simp at *; omega))) | (with_reducible refine Below.drew ?_) | (with_reducible refine below_drewN ?_ _) | ((refine Below.trans ?_ (Below.mono (by with_reducible assumption) ?_)); rotate_left; · (first | omega | (simp; done) | (simp; omega) | (simp at *; omega)))))⟩)
  have HE := Lib.hid (show (Sca.mk true false swap mul div add).err = 0 from if_pos ho)
  clear ho
  unfold NilBack
  rcases (show raw < 0 ∨ (¬ raw < 0 ∧ 4294967295 < raw) by omega) with h1 | ⟨h1, h2⟩
  · have t1 : decide (raw < 0) = true := decide_eq_true h1
    clear hr
    go_enter Try.func21, Try.ntmps21
    obtain ⟨c0, c1, c2, c3, c4, c5, hl⟩ := HB.out.all
    dsimp only at c0 c1 c2 c3 c4 c5
    go_wp2_with fail
    refine (rcheck_at (Sca.mk true false swap mul div add) _ 0 HE.out).mono ?_
    rintro e w1 ⟨rfl, hb1⟩
    have HB1 := Lib.hid (HB.out.below hb1)
    clear c0 c1 c2 c3 c4 c5 hl hb1 HB
    obtain ⟨c0, c1, c2, c3, c4, c5, hl⟩ := HB1.out.all
    dsimp only at c0 c1 c2 c3 c4 c5
    have hbel := HB1.out.2
    go_wp2_with fail
    refine bodyPost_ret (v := .tuple #[.slice none 0 0, .int .i64 3]) ?_ rfl ⟨rfl, by (repeat (first | (with_reducible assumption) | (with_reducible exact Below.refl _ _) | ((with_reducible refine Below.setCell ?_ ?_ _); rotate_left; · (first | omega | (simp; done) | (simp; omega) | (simp at *; omega))) | ((with_reducible refine Below.alloc ?_ ?_ _); rotate_left; · (first | omega | (simp; done) | (simp; omega) | (simp at *; omega))) | (with_reducible refine Below.drew ?_) | (with_reducible refine below_drewN ?_ _) | ((refine Below.trans ?_ (Below.mono (by with_reducible assumption) ?_)); rotate_left; · (first | omega | (simp; done) | (simp; omega) | (simp at *; omega)))))⟩
    simp [results, Try.results21, go_sem]
  · have t1 : decide (raw < 0) = false := decide_eq_false h1
    have t2 : decide (4294967295 < raw) = true := decide_eq_true h2
    clear hr
    go_enter Try.func21, Try.ntmps21
    obtain ⟨c0, c1, c2, c3, c4, c5, hl⟩ := HB.out.all
    dsimp only at c0 c1 c2 c3 c4 c5
    go_wp2_with fail
    refine (rcheck_at (Sca.mk true false swap mul div add) _ 0 HE.out).mono ?_
    rintro e w1 ⟨rfl, hb1⟩
    have HB1 := Lib.hid (HB.out.below hb1)
    clear c0 c1 c2 c3 c4 c5 hl hb1 HB
    obtain ⟨c0, c1, c2, c3, c4, c5, hl⟩ := HB1.out.all
    dsimp only at c0 c1 c2 c3 c4 c5
    have hbel := HB1.out.2
    go_wp2_with fail
    refine (many_at (Sca.mk true false swap mul div add) _ 4294967296 rfl).mono ?_
    rintro e w2 ⟨rfl, hb2⟩
    have HB2 := Lib.hid (HB1.out.below hb2)
    clear c0 c1 c2 c3 c4 c5 hl hb2 HB1 hbel
    obtain ⟨c0, c1, c2, c3, c4, c5, hl⟩ := HB2.out.all
    dsimp only at c0 c1 c2 c3 c4 c5
    have hbel := HB2.out.2
    go_wp2_with fail
    refine bodyPost_ret (v := .tuple #[.slice none 0 0, .int .i64 3]) ?_ rfl ⟨rfl, by (repeat (first | (with_reducible assumption) | (with_reducible exact Below.refl _ _) | ((with_reducible refine Below.setCell ?_ ?_ _); rotate_left; · (first | omega | (simp; done) | (simp; omega) | (simp at *; omega))) | ((with_reducible refine Below.alloc ?_ ?_ _); rotate_left; · (first | omega | (simp; done) | (simp; omega) | (simp at *; omega))) | (with_reducible refine Below.drew ?_) | (with_reducible refine below_drewN ?_ _) | ((refine Below.trans ?_ (Below.mono (by with_reducible assumption) ?_)); rotate_left; · (first | omega | (simp; done) | (simp; omega) | (simp at *; omega)))))⟩
    simp [results, Try.results21, go_sem]

set_option maxHeartbeats 1000000 in
theorem rwords_farFT (swap : Bool) (mul div add raw : Int) (w : World) (ho : (Sca.mk false true swap mul div add).Ok) (hr : raw < -32768 ∨ 32767 < raw) :
    Calls Try.prog 21 #[.agg #[.bool false, .bool true, .bool swap, .int .i64 mul, .int .i64 div, .int .i64 add], .int .i64 raw] w (NilBack 3 w) := by
  have HB := Lib.hid (show CB w w.heap.size (Sca.mk false true swap mul div add) (w.alloc (.cells #[.bool false, .bool true, .bool swap, .int .i64 mul, .int .i64 div, .int .i64 add] 23)) from ⟨Blk.new _ _ _, by (repeat (first | (with_reducible assumption) | (with_reducible exact Below.refl _ _) | ((with_reducible refine Below.setCell ?_ ?_ _); rotate_left; · (first | omega | (simp; done) | (simp; omega) | (simp at *; omega))) | ((with_reducible refine Below.alloc ?_ ?_ _); rotate_left; · (first | omega | (simp; done) | (simp; omega) | (simp at *; omega))) | (with_reducible refine Below.drew ?_) | (with_reducible refine below_drewN ?_ _) | ((refine Below.trans ?_ (Below.mono (by with_reducible assumption) ?_)); rotate_left; · (first | omega | (simp; done) | (simp; omega) | (simp at *; omega)))))⟩)
  have HE := Lib.hid (show (Sca.mk false true swap mul div add).err = 0 from if_pos ho)
  clear ho
  unfold NilBack
  rcases (show raw < -32768 ∨ (¬ raw < -32768 ∧ 32767 < raw) by omega) with h1 | ⟨h1, h2⟩
  · have t1 : decide (raw < -32768) = true := decide_eq_true h1
    clear hr
    go_enter Try.func21, Try.ntmps21
    obtain ⟨c0, c1, c2, c3, c4, c5, hl⟩ := HB.out.all
    dsimp only at c0 c1 c2 c3 c4 c5
    go_wp2_with fail
    refine (rcheck_at (Sca.mk false true swap mul div add) _ 0 HE.out).mono ?_
    rintro e w1 ⟨rfl, hb1⟩
    have HB1 := Lib.hid (HB.out.below hb1)
    clear c0 c1 c2 c3 c4 c5 hl hb1 HB
    obtain ⟨c0, c1, c2, c3, c4, c5, hl⟩ := HB1.out.all
    dsimp only at c0 c1 c2 c3 c4 c5
    have hbel := HB1.out.2
    go_wp2_with fail
    refine (many_at (Sca.mk false true swap mul div add) _ 65536 rfl).mono ?_
    rintro e w2 ⟨rfl, hb2⟩
    have HB2 := Lib.hid (HB1.out.below hb2)
    clear c0 c1 c2 c3 c4 c5 hl hb2 HB1 hbel
    obtain ⟨c0, c1, c2, c3, c4, c5, hl⟩ := HB2.out.all
    dsimp only at c0 c1 c2 c3 c4 c5
    have hbel := HB2.out.2
    go_wp2_with fail
    refine bodyPost_ret (v := .tuple #[.slice none 0 0, .int .i64 3]) ?_ rfl ⟨rfl, by (repeat (first | (with_reducible assumption) | (with_reducible exact Below.refl _ _) | ((with_reducible refine Below.setCell ?_ ?_ _); rotate_left; · (first | omega | (simp; done) | (simp; omega) | (simp at *; omega))) | ((with_reducible refine Below.alloc ?_ ?_ _); rotate_left; · (first | omega | (simp; done) | (simp; omega) | (simp at *; omega))) | (with_reducible refine Below.drew ?_) | (with_reducible refine below_drewN ?_ _) | ((refine Below.trans ?_ (Below.mono (by with_reducible assumption) ?_)); rotate_left; · (first | omega | (simp; done) | (simp; omega) | (simp at *; omega)))))⟩
    simp [results, Try.results21, go_sem]
  · have t1 : decide (raw < -32768) = false := decide_eq_false h1
    have t2 : decide (32767 < raw) = true := decide_eq_true h2
    clear hr
    go_enter Try.func21, Try.ntmps21
    obtain ⟨c0, c1, c2, c3, c4, c5, hl⟩ := HB.out.all
    dsimp only at c0 c1 c2 c3 c4 c5
    go_wp2_with fail
    refine (rcheck_at (Sca.mk false true swap mul div add) _ 0 HE.out).mono ?_
    rintro e w1 ⟨rfl, hb1⟩
    have HB1 := Lib.hid (HB.out.below hb1)
    clear c0 c1 c2 c3 c4 c5 hl hb1 HB
    obtain ⟨c0, c1, c2, c3, c4, c5, hl⟩ := HB1.out.all
    dsimp only at c0 c1 c2 c3 c4 c5
    have hbel := HB1.out.2
    go_wp2_with fail
    refine (many_at (Sca.mk false true swap mul div add) _ 65536 rfl).mono ?_
    rintro e w2 ⟨rfl, hb2⟩
    have HB2 := Lib.hid (HB1.out.below hb2)
    clear c0 c1 c2 c3 c4 c5 hl hb2 HB1 hbel
    obtain ⟨c0, c1, c2, c3, c4, c5, hl⟩ := HB2.out.all
    dsimp only at c0 c1 c2 c3 c4 c5
    have hbel := HB2.out.2
    go_wp2_with fail
    refine (many_at (Sca.mk false true swap mul div add) _ 65536 rfl).mono ?_
    rintro e w3 ⟨rfl, hb3⟩
    have HB3 := Lib.hid (HB2.out.below hb3)
    clear c0 c1 c2 c3 c4 c5 hl hb3 HB2 hbel
    obtain ⟨c0, c1, c2, c3, c4, c5, hl⟩ := HB3.out.all
    dsimp only at c0 c1 c2 c3 c4 c5
    have hbel := HB3.out.2
    go_wp2_with fail
    refine bodyPost_ret (v := .tuple #[.slice none 0 0, .int .i64 3]) ?_ rfl ⟨rfl, by (repeat (first | (with_reducible assumption) | (with_reducible exact Below.refl _ _) | ((with_reducible refine Below.setCell ?_ ?_ _); rotate_left; · (first | omega | (simp; done) | (simp; omega) | (simp at *; omega))) | ((with_reducible refine Below.alloc ?_ ?_ _); rotate_left; · (first | omega | (simp; done) | (simp; omega) | (simp at *; omega))) | (with_reducible refine Below.drew ?_) | (with_reducible refine below_drewN ?_ _) | ((refine Below.trans ?_ (Below.mono (by with_reducible assumption) ?_)); rotate_left; · (first | omega | (simp; done) | (simp; omega) | (simp at *; omega)))))⟩
    simp [results, Try.results21, go_sem]

set_option maxHeartbeats 1000000 in
theorem rwords_farTT (swap : Bool) (mul div add raw : Int) (w : World) (ho : (Sca.mk true true swap mul div add).Ok) (hr : raw < -2147483648 ∨ 2147483647 < raw) :
    Calls Try.prog 21 #[.agg #[.bool true, .bool true, .bool swap, .int .i64 mul, .int .i64 div, .int .i64 add], .int .i64 raw] w (NilBack 3 w) := by
  have HB := Lib.hid (show CB w w.heap.size (Sca.mk true true swap mul div add) (w.alloc (.cells #[.bool true, .bool true, .bool swap, .int .i64 mul, .int .i64 div, .int .i64 add] 23)) from ⟨Blk.new _ _ _, by (repeat (first | (with_reducible assumption) | (with_reducible exact Below.refl _ _) | ((with_reducible refine Below.setCell ?_ ?_ _); rotate_left; · (first | omega | (simp; done) | (simp; omega) | (simp at *; omega))) | ((with_reducible refine Below.alloc ?_ ?_ _); rotate_left; · (first | omega | (simp; done) | (simp; omega) | (simp at *; omega))) | (with_reducible refine Below.drew ?_) | (with_reducible refine below_drewN ?_ _) | ((refine Below.trans ?_ (Below.mono (by with_reducible assumption) ?_)); rotate_left; · (first | omega | (simp; done) | (simp; omega) | (simp at *; omega)))))⟩)
  have HE := Lib.hid (show (Sca.mk true true swap mul div add).err = 0 from if_pos ho)
  clear ho
  unfold NilBack
  rcases (show raw < -2147483648 ∨ (¬ raw < -2147483648 ∧ 2147483647 < raw) by omega) with h1 | ⟨h1, h2⟩
  · have t1 : decide (raw < -2147483648) = true := decide_eq_true h1
    clear hr
    go_enter Try.func21, Try.ntmps21
    obtain ⟨c0, c1, c2, c3, c4, c5, hl⟩ := HB.out.all
    dsimp only at c0 c1 c2 c3 c4 c5
    go_wp2_with fail
    refine (rcheck_at (Sca.mk true true swap mul div add) _ 0 HE.out).mono ?_
    rintro e w1 ⟨rfl, hb1⟩
    have HB1 := Lib.hid (HB.out.below hb1)
    clear c0 c1 c2 c3 c4 c5 hl hb1 HB
    obtain ⟨c0, c1, c2, c3, c4, c5, hl⟩ := HB1.out.all
    dsimp only at c0 c1 c2 c3 c4 c5
    have hbel := HB1.out.2
    go_wp2_with fail
    refine (many_at (Sca.mk true true swap mul div add) _ 4294967296 rfl).mono ?_
    rintro e w2 ⟨rfl, hb2⟩
    have HB2 := Lib.hid (HB1.out.below hb2)
    clear c0 c1 c2 c3 c4 c5 hl hb2 HB1 hbel
    obtain ⟨c0, c1, c2, c3, c4, c5, hl⟩ := HB2.out.all
    dsimp only at c0 c1 c2 c3 c4 c5
    have hbel := HB2.out.2
    go_wp2_with fail
    refine bodyPost_ret (v := .tuple #[.slice none 0 0, .int .i64 3]) ?_ rfl ⟨rfl, by (repeat (first | (with_reducible assumption) | (with_reducible exact Below.refl _ _) | ((with_reducible refine Below.setCell ?_ ?_ _); rotate_left; · (first | omega | (simp; done) | (simp; omega) | (simp at *; omega))) | ((with_reducible refine Below.alloc ?_ ?_ _); rotate_left; · (first | omega | (simp; done) | (simp; omega) | (simp at *; omega))) | (with_reducible refine Below.drew ?_) | (with_reducible refine below_drewN ?_ _) | ((refine Below.trans ?_ (Below.mono (by with_reducible assumption) ?_)); rotate_left; · (first | omega | (simp; done) | (simp; omega) | (simp at *; omega)))))⟩
    simp [results, Try.results21, go_sem]
  · have t1 : decide (raw < -2147483648) = false := decide_eq_false h1
    have t2 : decide (2147483647 < raw) = true := decide_eq_true h2
    clear hr
    go_enter Try.func21, Try.ntmps21
    obtain ⟨c0, c1, c2, c3, c4, c5, hl⟩ := HB.out.all
    dsimp only at c0 c1 c2 c3 c4 c5
    go_wp2_with fail
    refine (rcheck_at (Sca.mk true true swap mul div add) _ 0 HE.out).mono ?_
    rintro e w1 ⟨rfl, hb1⟩
    have HB1 := Lib.hid (HB.out.below hb1)
    clear c0 c1 c2 c3 c4 c5 hl hb1 HB
    obtain ⟨c0, c1, c2, c3, c4, c5, hl⟩ := HB1.out.all
    dsimp only at c0 c1 c2 c3 c4 c5
    have hbel := HB1.out.2
    go_wp2_with fail
    refine (many_at (Sca.mk true true swap mul div add) _ 4294967296 rfl).mono ?_
    rintro e w2 ⟨rfl, hb2⟩
    have HB2 := Lib.hid (HB1.out.below hb2)
    clear c0 c1 c2 c3 c4 c5 hl hb2 HB1 hbel
    obtain ⟨c0, c1, c2, c3, c4, c5, hl⟩ := HB2.out.all
    dsimp only at c0 c1 c2 c3 c4 c5
    have hbel := HB2.out.2
    go_wp2_with fail
    refine (many_at (Sca.mk true true swap mul div add) _ 4294967296 rfl).mono ?_
    rintro e w3 ⟨rfl, hb3⟩
    have HB3 := Lib.hid (HB2.out.below hb3)
    clear c0 c1 c2 c3 c4 c5 hl hb3 HB2 hbel
    obtain ⟨c0, c1, c2, c3, c4, c5, hl⟩ := HB3.out.all
    dsimp only at c0 c1 c2 c3 c4 c5
    have hbel := HB3.out.2
    go_wp2_with fail
    refine bodyPost_ret (v := .tuple #[.slice none 0 0, .int .i64 3]) ?_ rfl ⟨rfl, by (repeat (first | (with_reducible assumption) | (with_reducible exact Below.refl _ _) | ((with_reducible refine Below.setCell ?_ ?_ _); rotate_left; · (first | omega | (simp; done) | (simp; omega) | (simp at *; omega))) | ((with_reducible refine Below.alloc ?_ ?_ _); rotate_left; · (first | omega | (simp; done) | (simp; omega) | (simp at *; omega))) | (with_reducible refine Below.drew ?_) | (with_reducible refine below_drewN ?_ _) | ((refine Below.trans ?_ (Below.mono (by with_reducible assumption) ?_)); rotate_left; · (first | omega | (simp; done) | (simp; omega) | (simp at *; omega)))))⟩
    simp [results, Try.results21, go_sem]

theorem rwords_all (s : Sca) (raw : Int) (w : World) :
    Calls Try.prog 21 #[.agg #[.bool s.wide, .bool s.signed, .bool s.swap, .int .i64 s.mul, .int .i64 s.div, .int .i64 s.add], .int .i64 raw] w (WordsAll (wordsTo s raw).1 (wordsTo s raw).2 w) := by
  by_cases ho : s.Ok
  rotate_left
  · have e : wordsTo s raw = ([], 25) := if_pos ho
    rw [e]
    exact (rwords_bad s raw w ho).mono fun _ _ h => wordsAll_nil h.1 h.2
  by_cases hf : s.far raw
  · have e : wordsTo s raw = ([], 3) := by unfold wordsTo; rw [if_neg (by simp [ho]), if_pos hf]
    rw [e]
    obtain ⟨wide, signed, swap, mul, div, add⟩ := s
    cases wide <;> cases signed
    · exact (rwords_farFF swap mul div add raw w ho (by simpa [Sca.far, Sca.low, Sca.many] using hf)).mono fun _ _ h => wordsAll_nil h.1 h.2
    · exact (rwords_farFT swap mul div add raw w ho (by simpa [Sca.far, Sca.low, Sca.many] using hf)).mono fun _ _ h => wordsAll_nil h.1 h.2
    · exact (rwords_farTF swap mul div add raw w ho (by simpa [Sca.far, Sca.low, Sca.many] using hf)).mono fun _ _ h => wordsAll_nil h.1 h.2
    · exact (rwords_farTT swap mul div add raw w ho (by simpa [Sca.far, Sca.low, Sca.many] using hf)).mono fun _ _ h => wordsAll_nil h.1 h.2
  · have e : wordsTo s raw = (s.list raw, 0) := by unfold wordsTo; rw [if_neg (by simp [ho]), if_neg hf]
    rw [e]
    obtain ⟨wide, signed, swap, mul, div, add⟩ := s
    cases wide <;> cases swap <;> cases signed <;> simp [Sca.far, Sca.low, Sca.many] at hf
    · exact (rwords_FFF mul div add raw w ho (by omega) (by omega)).mono fun _ _ h => wordsAll_back h rfl (by omega)
    · exact (rwords_FFT mul div add raw w ho (by omega) (by omega)).mono fun _ _ h => wordsAll_back h rfl (by omega)
    · exact absurd (ho.2.2.2.2 rfl) (by simp)
    · exact absurd (ho.2.2.2.2 rfl) (by simp)
    · exact (rwords_TFF mul div add raw w ho (by omega) (by omega)).mono fun _ _ h => wordsAll_back h rfl (by omega)
    · exact (rwords_TFT mul div add raw w ho (by omega) (by omega)).mono fun _ _ h => wordsAll_back h rfl (by omega)
    · exact (rwords_TTF mul div add raw w ho (by omega) (by omega)).mono fun _ _ h => wordsAll_back h rfl (by omega)
    · exact (rwords_TTT mul div add raw w ho (by omega) (by omega)).mono fun _ _ h => wordsAll_back h rfl (by omega)
end Go.Proofs.Ytbfdecfdmigoiaa
