/-
  What is proved here: the law ScaleKnown returns true. Conditions: none.
-/
import Derived.Test.YtbfdecfdmigoiaaScaleValues
import Derived.Test.YtbfdecfdmigoiaaScaleNearest
import Derived.Test.YtbfdecfdmigoiaaScaleTurned
import Derived.Test.YtbfdecfdmigoiaaScaleBack
import Derived.Deep.DeepCutAuto
import Derived.Deep.RegionHeld3
namespace Go.Proofs.Ytbfdecfdmigoiaa
namespace ScaleKnown
open Go.ChangeShapes Go.WideShapes Go.ChangeAt Go.RowKit Go.Deep

abbrev six (wide signed swap : Bool) (mul div add : Int) : Value := .agg #[.bool wide, .bool signed, .bool swap, .int .i64 mul, .int .i64 div, .int .i64 add]
theorem values_yes (wide signed swap : Bool) (mul div add raw : Int) (w : World) :
    Calls Try.prog 4 #[.agg #[.bool wide, .bool signed, .bool swap, .int .i64 mul, .int .i64 div, .int .i64 add], .int .i64 raw] w fun e w' => e = .returned (.bool true) ∧ Below w.heap.size w w' := ScaleValues.walk ⟨wide, signed, swap, mul, div, add⟩ raw w
theorem nearest_yes (wide signed swap : Bool) (mul div add raw : Int) (w : World) :
    Calls Try.prog 5 #[.agg #[.bool wide, .bool signed, .bool swap, .int .i64 mul, .int .i64 div, .int .i64 add], .int .i64 raw] w fun e w' => e = .returned (.bool true) ∧ Below w.heap.size w w' := ScaleNearest.walk ⟨wide, signed, swap, mul, div, add⟩ raw w
theorem turned_yes (wide signed swap : Bool) (mul div add raw : Int) (w : World) :
    Calls Try.prog 7 #[.agg #[.bool wide, .bool signed, .bool swap, .int .i64 mul, .int .i64 div, .int .i64 add], .int .i64 raw] w fun e w' => e = .returned (.bool true) ∧ Below w.heap.size w w' := ScaleTurned.walk ⟨wide, signed, swap, mul, div, add⟩ raw w
theorem words_yes (wide signed swap : Bool) (mul div add raw : Int) (w : World) :
    Calls Try.prog 8 #[.agg #[.bool wide, .bool signed, .bool swap, .int .i64 mul, .int .i64 div, .int .i64 add], .int .i64 raw] w fun e w' => e = .returned (.bool true) ∧ Below w.heap.size w w' := ScaleWords.walk ⟨wide, signed, swap, mul, div, add⟩ raw w
/-- words that lie in a block of their own. -/
def WordsIn (w : World) (g n : Nat) : Prop := ∃ L : List Int, L.length = n ∧ IntsAt .u16 w (some ⟨g, 0, none⟩) L ∧ ∀ x ∈ L, U16 x
theorem words_in {w : World} {cs : Array Value} (L : List Int) (n : Nat) (e : cs.toList = L.map (Value.int .u16)) (hn : L.length = n) (hu : ∀ x ∈ L, U16 x) : WordsIn (w.alloc (.cells cs 41)) w.heap.size n :=
  ⟨L, hn, (irow_blk (Blk.new w 41 cs) e hn).at_, hu⟩
theorem back_yes (wide signed swap : Bool) (mul div add raw : Int) (g n : Nat) (w : World) (h : WordsIn w g n) :
    Calls Try.prog 9 #[.agg #[.bool wide, .bool signed, .bool swap, .int .i64 mul, .int .i64 div, .int .i64 add], .int .i64 raw, .slice (some ⟨g, 0, none⟩) n n] w fun e w' => e = .returned (.bool true) ∧ Below w.heap.size w w' := by
  obtain ⟨L, rfl, hA, hU⟩ := h
  exact ScaleBack.walk ⟨wide, signed, swap, mul, div, add⟩ raw _ _ L w hA hU
theorem raws_yes (wide signed swap : Bool) (mul div add : Int) (g n : Nat) (w : World) (h : WordsIn w g n) :
    Calls Try.prog 3 #[.agg #[.bool wide, .bool signed, .bool swap, .int .i64 mul, .int .i64 div, .int .i64 add], .slice (some ⟨g, 0, none⟩) n n] w fun e w' => e = .returned (.bool true) ∧ Below w.heap.size w w' := by
  obtain ⟨L, rfl, hA, hU⟩ := h
  exact ScaleRaws.walk ⟨wide, signed, swap, mul, div, add⟩ _ _ L w hA hU
theorem raws_nil (wide signed swap : Bool) (mul div add : Int) (w : World) :
    Calls Try.prog 3 #[.agg #[.bool wide, .bool signed, .bool swap, .int .i64 mul, .int .i64 div, .int .i64 add], .slice none 0 0] w fun e w' => e = .returned (.bool true) ∧ Below w.heap.size w w' :=
  ScaleRaws.walk ⟨wide, signed, swap, mul, div, add⟩ none 0 [] w (IntsAt.nil_ _ _ _) (fun x hx => by cases hx)

/-- a list of numbers in a block. -/
def IntsIn (w : World) (g n : Nat) : Prop := IRow .i64 3 w g n []
theorem IntsIn.below {w w' : World} {g n : Nat} (h : IntsIn w g n) (hb : Below w.heap.size w w') : IntsIn w' g n := IRow.below h hb h.lt
theorem IntsIn.num {w : World} {g n : Nat} (h : IntsIn w g n) {k : Nat} (hk : k < n) : (∃ p : Int, w.cell? ⟨g, k, none⟩ = some (.int .i64 p)) ∧ g < w.heap.size := ⟨h.any hk, h.lt⟩
theorem ints_in {w : World} {cs : Array Value} (L : List Int) (n : Nat) (e : cs.toList = L.map (Value.int .i64)) (hn : L.length = n) : IntsIn (w.alloc (.cells cs 3)) w.heap.size n :=
  (irow_blk (Blk.new w 3 cs) e hn).bare
/-- what the walk holds on to: the three lists. -/
def Hold (w : World) (f a n : Nat) (wr : World) : Prop := IntsIn wr f 11 ∧ IntsIn wr a 6 ∧ IntsIn wr n 18 ∧ Below w.heap.size w wr
theorem Hold.below {w wr w' : World} {f a n : Nat} (h : Hold w f a n wr) (hb : Below wr.heap.size wr w') : Hold w f a n w' :=
  ⟨h.1.below hb, h.2.1.below hb, h.2.2.1.below hb, h.2.2.2.trans (hb.mono h.2.2.2.size)⟩
theorem below_behind {w w' : World} {o : Obj} (h : Below (w.alloc o).heap.size (w.alloc o) w') : Below w.heap.size w w' := ((Below.refl _ _).alloc (Nat.le_refl _) o).trans (h.mono (by simp))
theorem keep7 {wz w' w'' : World} {g n m : Nat} {a0 a1 a2 a3 a4 a5 x : Value} (hz : Below wz.heap.size wz w') (hb : Below w'.heap.size w' w'') (c0 : w'.cell? ⟨g, 0, none⟩ = some a0) (c1 : w'.cell? ⟨g, 1, none⟩ = some a1) (c2 : w'.cell? ⟨g, 2, none⟩ = some a2) (c3 : w'.cell? ⟨g, 3, none⟩ = some a3) (c4 : w'.cell? ⟨g, 4, none⟩ = some a4) (c5 : w'.cell? ⟨g, 5, none⟩ = some a5) (nx : w'.cell? ⟨n, m, none⟩ = some x) (l1 : g < wz.heap.size) (l2 : n < wz.heap.size) :
    w''.cell? ⟨g, 0, none⟩ = some a0 ∧ w''.cell? ⟨g, 1, none⟩ = some a1 ∧ w''.cell? ⟨g, 2, none⟩ = some a2 ∧ w''.cell? ⟨g, 3, none⟩ = some a3 ∧ w''.cell? ⟨g, 4, none⟩ = some a4 ∧ w''.cell? ⟨g, 5, none⟩ = some a5 ∧ w''.cell? ⟨n, m, none⟩ = some x ∧ Below wz.heap.size wz w'' := by
  have h1 := Nat.lt_of_lt_of_le l1 hz.size
  have h2 := Nat.lt_of_lt_of_le l2 hz.size
  exact ⟨(hb.cell (p := ⟨g, 0, none⟩) h1).trans c0, (hb.cell (p := ⟨g, 1, none⟩) h1).trans c1, (hb.cell (p := ⟨g, 2, none⟩) h1).trans c2, (hb.cell (p := ⟨g, 3, none⟩) h1).trans c3, (hb.cell (p := ⟨g, 4, none⟩) h1).trans c4, (hb.cell (p := ⟨g, 5, none⟩) h1).trans c5, (hb.cell (p := ⟨n, m, none⟩) h2).trans nx, hz.trans (hb.mono hz.size)⟩
theorem hu1 : ∀ x ∈ [(32768 : Int)], U16 x := by intro x hx; simp at hx; subst hx; exact ⟨by decide, by decide⟩
theorem hu2 : ∀ x ∈ [(32767 : Int), 65535], U16 x := by intro x hx; simp at hx; rcases hx with rfl | rfl <;> exact ⟨by decide, by decide⟩
theorem hu3 : ∀ x ∈ [(65535 : Int)], U16 x := by intro x hx; simp at hx; subst hx; exact ⟨by decide, by decide⟩
theorem hu4 : ∀ x ∈ [(32768 : Int), 0], U16 x := by intro x hx; simp at hx; rcases hx with rfl | rfl <;> exact ⟨by decide, by decide⟩
theorem hu5 : ∀ x ∈ [(65535 : Int), 65534], U16 x := by intro x hx; simp at hx; rcases hx with rfl | rfl <;> exact ⟨by decide, by decide⟩
theorem hu6 : ∀ x ∈ [(1 : Int), 2, 3], U16 x := by intro x hx; simp at hx; rcases hx with rfl | rfl | rfl <;> exact ⟨by decide, by decide⟩
theorem hu7 : ∀ x ∈ [(1 : Int)], U16 x := by intro x hx; simp at hx; subst hx; exact ⟨by decide, by decide⟩
theorem keep3 {wz w' : World} {f a i j r : Nat} {x y z : Value} (hb : Below wz.heap.size wz w') (h1 : wz.cell? ⟨f, i, none⟩ = some x) (h2 : wz.cell? ⟨f, j, none⟩ = some y) (h3 : wz.cell? ⟨a, r, none⟩ = some z) (l1 : f < wz.heap.size) (l2 : a < wz.heap.size) :
    w'.cell? ⟨f, i, none⟩ = some x ∧ w'.cell? ⟨f, j, none⟩ = some y ∧ w'.cell? ⟨a, r, none⟩ = some z ∧ Below wz.heap.size wz w' :=
  ⟨(hb.cell (p := ⟨f, i, none⟩) l1).trans h1, (hb.cell (p := ⟨f, j, none⟩) l1).trans h2, (hb.cell (p := ⟨a, r, none⟩) l2).trans h3, hb⟩
/-- a scale in a block. -/
def SB (wr : World) (g : Nat) (wide signed swap : Bool) (mul div add : Int) : Prop := Blk wr g 23 #[.bool wide, .bool signed, .bool swap, .int .i64 mul, .int .i64 div, .int .i64 add]
theorem SB.all {wr : World} {g : Nat} {wide signed swap : Bool} {mul div add : Int} (h : SB wr g wide signed swap mul div add) :
    wr.cell? ⟨g, 0, none⟩ = some (.bool wide) ∧ wr.cell? ⟨g, 1, none⟩ = some (.bool signed) ∧ wr.cell? ⟨g, 2, none⟩ = some (.bool swap) ∧ wr.cell? ⟨g, 3, none⟩ = some (.int .i64 mul) ∧ wr.cell? ⟨g, 4, none⟩ = some (.int .i64 div) ∧ wr.cell? ⟨g, 5, none⟩ = some (.int .i64 add) ∧ g < wr.heap.size :=
  ⟨h.cell 0, h.cell 1, h.cell 2, h.cell 3, h.cell 4, h.cell 5, h.lt⟩
theorem SB.below {w w' : World} {g : Nat} {wide signed swap : Bool} {mul div add : Int} (h : SB w g wide signed swap mul div add) (hb : Below w.heap.size w w') : SB w' g wide signed swap mul div add := Blk.below h hb h.lt


set_option maxRecDepth 100000 in
set_option maxHeartbeats 20000000 in
theorem walk (w : World) :
    Calls Try.prog 10 #[] w fun e w' => e = .returned (.bool true) ∧ Below w.heap.size w w' := by
  go_enter Try.func10, Try.ntmps10
  go_upto_region 1 with fail
  go_cut [1] (fun s1 wx => ∃ f, s1 = .slice (some ⟨f, 0, none⟩) 11 11 ∧ IntsIn wx f 11 ∧ Below w.heap.size w wx)
  case first =>
    go_wp2_with fail
    go_meet
    exact ⟨_, rfl, ints_in [-9223372036854775808, -1000001, -1000000, -1, 0, 1, 2, 999999, 1000000, 1000001, 9223372036854775807] 11 rfl rfl, by (repeat (first | (with_reducible assumption) | (with_reducible exact Below.refl _ _) | ((with_reducible refine Below.setCell ?_ ?_ _); rotate_left; · (first | omega | (simp; done) | (simp; omega) | (simp at *; omega))) | ((with_reducible refine Below.alloc ?_ ?_ _); rotate_left; · (first | omega | (simp; done) | (simp; omega) | (simp at *; omega))) | (with_reducible refine Below.drew ?_) | (with_reducible refine below_drewN ?_ _) | ((refine Below.trans ?_ (Below.mono (by with_reducible assumption) ?_)); rotate_left; · (first | omega | (simp; done) | (simp; omega) | (simp at *; omega)))))⟩
  obtain ⟨f, rfl, hf, hb⟩ := hcut
  obtain ⟨wa, rfl⟩ : ∃ wq : World, wq = wc := ⟨_, rfl⟩
  have HF := Lib.hid hf
  have HW := Lib.hid hb
  clear hf hb
  go_upto_region 2 with fail
  go_cut [2] (fun s2 wx => ∃ a, s2 = .slice (some ⟨a, 0, none⟩) 6 6 ∧ IntsIn wx a 6 ∧ Below wa.heap.size wa wx)
  case first =>
    go_wp2_with fail
    go_meet
    exact ⟨_, rfl, ints_in [-1099511627777, -1099511627776, -1, 0, 1099511627776, 1099511627777] 6 rfl rfl, by (repeat (first | (with_reducible assumption) | (with_reducible exact Below.refl _ _) | ((with_reducible refine Below.setCell ?_ ?_ _); rotate_left; · (first | omega | (simp; done) | (simp; omega) | (simp at *; omega))) | ((with_reducible refine Below.alloc ?_ ?_ _); rotate_left; · (first | omega | (simp; done) | (simp; omega) | (simp at *; omega))) | (with_reducible refine Below.drew ?_) | (with_reducible refine below_drewN ?_ _) | ((refine Below.trans ?_ (Below.mono (by with_reducible assumption) ?_)); rotate_left; · (first | omega | (simp; done) | (simp; omega) | (simp at *; omega)))))⟩
  obtain ⟨a, rfl, ha, hb⟩ := hcut
  obtain ⟨wb, rfl⟩ : ∃ wq : World, wq = wc := ⟨_, rfl⟩
  have HF2 := Lib.hid (HF.out.below hb)
  have HA := Lib.hid ha
  have HW2 := Lib.hid (HW.out.trans (hb.mono HW.out.size))
  clear ha hb HF HW
  go_upto_region 3 with fail
  go_cut [3] (fun s3 wx => ∃ n, s3 = .slice (some ⟨n, 0, none⟩) 18 18 ∧ IntsIn wx n 18 ∧ Below wb.heap.size wb wx)
  case first =>
    go_wp2_with fail
    go_meet
    exact ⟨_, rfl, ints_in [-9223372036854775808, -2147483649, -2147483648, -32769, -32768, -1, 0, 1, 5, 32767, 32768, 65535, 65536, 2147483647, 2147483648, 4294967295, 4294967296, 9223372036854775807] 18 rfl rfl, by (repeat (first | (with_reducible assumption) | (with_reducible exact Below.refl _ _) | ((with_reducible refine Below.setCell ?_ ?_ _); rotate_left; · (first | omega | (simp; done) | (simp; omega) | (simp at *; omega))) | ((with_reducible refine Below.alloc ?_ ?_ _); rotate_left; · (first | omega | (simp; done) | (simp; omega) | (simp at *; omega))) | (with_reducible refine Below.drew ?_) | (with_reducible refine below_drewN ?_ _) | ((refine Below.trans ?_ (Below.mono (by with_reducible assumption) ?_)); rotate_left; · (first | omega | (simp; done) | (simp; omega) | (simp at *; omega)))))⟩
  obtain ⟨n, rfl, hn, hb⟩ := hcut
  obtain ⟨wd, rfl⟩ : ∃ wq : World, wq = wc := ⟨_, rfl⟩
  have HH := Lib.hid (show Hold w f a n wd from ⟨HF2.out.below hb, HA.out.below hb, hn, HW2.out.trans (hb.mono HW2.out.size)⟩)
  clear hn hb HF2 HA HW2
  go_wp2_with fail
  go_loopg [4] 11 (fun gm i wr => ∃ k : Nat, k ≤ 11 ∧ gm = 11 - k ∧ i = .int .i64 k ∧ Hold w f a n wr)
  case atStart => exact ⟨0, Nat.zero_le _, rfl, rfl, HH.out⟩
  case round =>
    clear HH
    obtain ⟨i, hi, rfl, rfl, hH⟩ := hrel
    obtain ⟨wz, rfl⟩ : ∃ wq : World, wq = wr := ⟨_, rfl⟩
    have HH := Lib.hid hH
    clear hH
    by_cases hlt : i < 11
    · have hki : (i : Int) < 11 := by omega
      have hk0 : (0 : Int) ≤ (i : Int) := by omega
      go_wp2_with fail
      go_loopg [5] 11 (fun gm k wr => ∃ j : Nat, j ≤ 11 ∧ gm = 11 - j ∧ k = .int .i64 j ∧ Hold w f a n wr)
      case atStart => exact ⟨0, Nat.zero_le _, rfl, rfl, HH.out⟩
      case round =>
        clear HH
        obtain ⟨j, hj, rfl, rfl, hH⟩ := hrel
        obtain ⟨wv, rfl⟩ : ∃ wq : World, wq = wr := ⟨_, rfl⟩
        have HH := Lib.hid hH
        clear hH
        by_cases hjl : j < 11
        · have hji : (j : Int) < 11 := by omega
          have hj0 : (0 : Int) ≤ (j : Int) := by omega
          go_upto_region 10 with fail
          go_cut [6] (fun s6 wx => ∃ (g : Nat) (p q r : Int), s6 = .pointer (some ⟨g, 0, none⟩) ∧ SB wx g false false false p q r ∧ Hold w f a n wx)
          case first =>
            obtain ⟨⟨p, hp⟩, hfl⟩ := HH.out.1.num hlt
            obtain ⟨⟨q, hq⟩, _⟩ := HH.out.1.num hjl
            obtain ⟨r, hr⟩ : ∃ r : Nat, r = (i + j) % 6 := ⟨_, rfl⟩
            have hr6 : r < 6 := by omega
            obtain ⟨⟨x, hx⟩, hal⟩ := HH.out.2.1.num hr6
            have hr7 : (r : Int) < 6 := by omega
            have hr0 : (0 : Int) ≤ (r : Int) := by omega
            have e1 : IntKind.i64.wrap ((i : Int) + (j : Int)) = (i : Int) + (j : Int) := IntWalk.i64_in _ ⟨by omega, by omega⟩
            have e2 : ((i : Int) + (j : Int)).tmod 6 = (r : Int) := by rw [Int.tmod_eq_emod_of_nonneg (by omega)]; omega
            have HR := Lib.hid hr
            clear hr
            go_region_held3 (fun w' => w'.cell? ⟨f, i, none⟩ = some (.int .i64 p) ∧ w'.cell? ⟨f, j, none⟩ = some (.int .i64 q) ∧ w'.cell? ⟨a, r, none⟩ = some (.int .i64 x) ∧ Below wv.heap.size wv w')
              ((go_split_ands; refine keep3 ?_ hp hq hx hfl hal; (repeat (first | (with_reducible assumption) | (with_reducible exact Below.refl _ _) | ((with_reducible refine Below.setCell ?_ ?_ _); rotate_left; · (first | omega | (simp; done) | (simp; omega) | (simp at *; omega))) | ((with_reducible refine Below.alloc ?_ ?_ _); rotate_left; · (first | omega | (simp; done) | (simp; omega) | (simp at *; omega))) | (with_reducible refine Below.drew ?_) | (with_reducible refine below_drewN ?_ _) | ((refine Below.trans ?_ (Below.mono (by with_reducible assumption) ?_)); rotate_left; · (first | omega | (simp; done) | (simp; omega) | (simp at *; omega)))))))
              (fail)
            all_goals
              go_wp2_with fail
              go_meet
              first
                | exact ⟨wv.heap.size, p, q, x, rfl, (Blk.new wv _ _).drew, HH.out.below (((Below.refl _ _).alloc (Nat.le_refl _) _).drew)⟩
                | exact ⟨wv.heap.size, p, q, x, rfl, Blk.new wv.drew _ _, HH.out.below (((Below.refl _ _).drew).alloc (Nat.le_refl _) _)⟩
          case rest =>
          obtain ⟨g, p, q, r, rfl, hS, hH⟩ := hcut
          obtain ⟨wu, rfl⟩ : ∃ wq : World, wq = wc := ⟨_, rfl⟩
          clear HH
          have HH := Lib.hid hH
          have HS := Lib.hid hS
          clear hS hH
          go_wp2_with fail
          go_loopg [7] 18 (fun gm k wr => ∃ m : Nat, m ≤ 18 ∧ gm = 18 - m ∧ k = .int .i64 m ∧ SB wr g false false false p q r ∧ Hold w f a n wr)
          case atStart => exact ⟨0, Nat.zero_le _, rfl, rfl, HS.out, HH.out⟩
          case round =>
            clear HH HS
            obtain ⟨m, hm, rfl, rfl, hS, hH⟩ := hrel
            obtain ⟨wx, rfl⟩ : ∃ wq : World, wq = wr := ⟨_, rfl⟩
            have HH := Lib.hid hH
            have HS := Lib.hid hS
            clear hS hH
            by_cases hml : m < 18
            · have hmi : (m : Int) < 18 := by omega
              have hm0 : (0 : Int) ≤ (m : Int) := by omega
              obtain ⟨⟨x, nx⟩, hln⟩ := HH.out.2.2.1.num hml
              obtain ⟨c0, c1, c2, c3, c4, c5, hl⟩ := SB.all HS.out
              go_upto_region 14 with fail
              go_cut [75] (fun s75 wy => s75 = .bool false ∧ Below wx.heap.size wx wy)
              case first =>
                go_region_held3 (fun w' => w'.cell? ⟨g, 0, none⟩ = some (.bool false) ∧ w'.cell? ⟨g, 1, none⟩ = some (.bool false) ∧ w'.cell? ⟨g, 2, none⟩ = some (.bool false) ∧ w'.cell? ⟨g, 3, none⟩ = some (.int .i64 p) ∧ w'.cell? ⟨g, 4, none⟩ = some (.int .i64 q) ∧ w'.cell? ⟨g, 5, none⟩ = some (.int .i64 r) ∧ w'.cell? ⟨n, m, none⟩ = some (.int .i64 x) ∧ Below wx.heap.size wx w')
                  (first
                    | exact ⟨c0, c1, c2, c3, c4, c5, nx, (Below.refl _ _).drew⟩
                    | (go_split_ands; refine ⟨(hb.cell (p := ⟨g, 0, none⟩) (Nat.lt_of_lt_of_le hl (Below.size (by assumption)))).trans (by assumption), (hb.cell (p := ⟨g, 1, none⟩) (Nat.lt_of_lt_of_le hl (Below.size (by assumption)))).trans (by assumption), (hb.cell (p := ⟨g, 2, none⟩) (Nat.lt_of_lt_of_le hl (Below.size (by assumption)))).trans (by assumption), (hb.cell (p := ⟨g, 3, none⟩) (Nat.lt_of_lt_of_le hl (Below.size (by assumption)))).trans (by assumption), (hb.cell (p := ⟨g, 4, none⟩) (Nat.lt_of_lt_of_le hl (Below.size (by assumption)))).trans (by assumption), (hb.cell (p := ⟨g, 5, none⟩) (Nat.lt_of_lt_of_le hl (Below.size (by assumption)))).trans (by assumption), (hb.cell (p := ⟨n, m, none⟩) (Nat.lt_of_lt_of_le hln (Below.size (by assumption)))).trans (by assumption), Below.trans (by assumption) (hb.mono (Below.size (by assumption)))⟩))
                  (first
                    | (go_at_call 4; (try go_split_ands); (with_reducible refine (values_yes _ _ _ _ _ _ _ _).mono ?_); rintro e w' ⟨rfl, hb⟩; have hk : Below wx.heap.size wx w' := (by first | exact hk.trans (hb.mono hk.size) | exact (Below.refl _ _).drew.trans hb))
                    | (go_at_call 5; (try go_split_ands); (with_reducible refine (nearest_yes _ _ _ _ _ _ _ _).mono ?_); rintro e w' ⟨rfl, hb⟩; have hk : Below wx.heap.size wx w' := (by first | exact hk.trans (hb.mono hk.size) | exact (Below.refl _ _).drew.trans hb))
                    | (go_at_call 7; (try go_split_ands); (with_reducible refine (turned_yes _ _ _ _ _ _ _ _).mono ?_); rintro e w' ⟨rfl, hb⟩; have hk : Below wx.heap.size wx w' := (by first | exact hk.trans (hb.mono hk.size) | exact (Below.refl _ _).drew.trans hb)))
                go_wp2_with fail
                go_meet
                go_split_ands
                exact ⟨rfl, by assumption⟩
              case rest =>
                obtain ⟨rfl, hby⟩ := hcut
                obtain ⟨wy, rfl⟩ : ∃ wq : World, wq = wc := ⟨_, rfl⟩
                have HH2 := Lib.hid (HH.out.below hby)
                have HS2 := Lib.hid (HS.out.below hby)
                clear hby HH HS c0 c1 c2 c3 c4 c5 hl nx hln
                go_wp2_with fail
                go_roundg (18 - (m + 1))
                case measure => omega
                case rel => exact ⟨m + 1, by omega, rfl, by go_num, HS2.out, HH2.out⟩
            · obtain rfl : m = 18 := by omega
              have HH2 := Lib.hid HH.out
              clear HH HS
              go_wp2_with fail
              go_roundg (11 - (j + 1))
              case measure => omega
              case rel => exact ⟨j + 1, by omega, rfl, by go_num, HH2.out⟩
        · obtain rfl : j = 11 := by omega
          go_wp2_with fail
          go_roundg (11 - (i + 1))
          case measure => omega
          case rel => exact ⟨i + 1, by omega, rfl, by go_num, HH.out⟩
    · obtain rfl : i = 11 := by omega
      go_wp2_with fail
      go_loopg [8] 8 (fun gm i wr => ∃ k : Nat, k ≤ 8 ∧ gm = 8 - k ∧ i = .int .i64 k ∧ Hold w f a n wr)
      case atStart => exact ⟨0, Nat.zero_le _, rfl, rfl, HH.out⟩
      case round =>
        clear HH
        obtain ⟨i, hi, rfl, rfl, hH⟩ := hrel
        obtain ⟨wz, rfl⟩ : ∃ wq : World, wq = wr := ⟨_, rfl⟩
        have HH := Lib.hid hH
        clear hH
        by_cases hlt : i < 8
        · have hki : (i : Int) < 8 := by omega
          have hk0 : (0 : Int) ≤ (i : Int) := by omega
          go_upto_region 19 with fail
          go_cut [9] (fun s9 wx => ∃ (g : Nat) (U V S : Bool), s9 = .pointer (some ⟨g, 0, none⟩) ∧ SB wx g U V S 1 1 0 ∧ Hold w f a n wx)
          case first =>
            go_wp2_with fail
            go_meet
            exact ⟨_, _, _, _, rfl, Blk.new _ _ _, HH.out.below ((Below.refl _ _).alloc (Nat.le_refl _) _)⟩
          case rest =>
          obtain ⟨g, U, V, S, rfl, hS, hH⟩ := hcut
          obtain ⟨wu, rfl⟩ : ∃ wq : World, wq = wc := ⟨_, rfl⟩
          clear HH
          have HH := Lib.hid hH
          have HS := Lib.hid hS
          clear hS hH
          go_wp2_with fail
          go_loopg [10] 18 (fun gm k wr => ∃ m : Nat, m ≤ 18 ∧ gm = 18 - m ∧ k = .int .i64 m ∧ SB wr g U V S 1 1 0 ∧ Hold w f a n wr)
          case atStart => exact ⟨0, Nat.zero_le _, rfl, rfl, HS.out, HH.out⟩
          case round =>
            clear HH HS
            obtain ⟨m, hm, rfl, rfl, hS, hH⟩ := hrel
            obtain ⟨wx, rfl⟩ : ∃ wq : World, wq = wr := ⟨_, rfl⟩
            have HH := Lib.hid hH
            have HS := Lib.hid hS
            clear hS hH
            by_cases hml : m < 18
            · have hmi : (m : Int) < 18 := by omega
              have hm0 : (0 : Int) ≤ (m : Int) := by omega
              obtain ⟨⟨x, nx⟩, hln⟩ := HH.out.2.2.1.num hml
              obtain ⟨c0, c1, c2, c3, c4, c5, hl⟩ := SB.all HS.out
              go_upto_region 23 with fail
              go_cut [122] (fun s122 wy => s122 = .bool false ∧ Below wx.heap.size wx wy)
              case first =>
                go_region_held3 (fun w' => w'.cell? ⟨g, 0, none⟩ = some (.bool U) ∧ w'.cell? ⟨g, 1, none⟩ = some (.bool V) ∧ w'.cell? ⟨g, 2, none⟩ = some (.bool S) ∧ w'.cell? ⟨g, 3, none⟩ = some (.int .i64 1) ∧ w'.cell? ⟨g, 4, none⟩ = some (.int .i64 1) ∧ w'.cell? ⟨g, 5, none⟩ = some (.int .i64 0) ∧ w'.cell? ⟨n, m, none⟩ = some (.int .i64 x) ∧ Below wx.heap.size wx w')
                  (first
                    | exact ⟨c0, c1, c2, c3, c4, c5, nx, (Below.refl _ _).drew⟩
                    | (go_split_ands; refine ⟨(hb.cell (p := ⟨g, 0, none⟩) (Nat.lt_of_lt_of_le hl (Below.size (by assumption)))).trans (by assumption), (hb.cell (p := ⟨g, 1, none⟩) (Nat.lt_of_lt_of_le hl (Below.size (by assumption)))).trans (by assumption), (hb.cell (p := ⟨g, 2, none⟩) (Nat.lt_of_lt_of_le hl (Below.size (by assumption)))).trans (by assumption), (hb.cell (p := ⟨g, 3, none⟩) (Nat.lt_of_lt_of_le hl (Below.size (by assumption)))).trans (by assumption), (hb.cell (p := ⟨g, 4, none⟩) (Nat.lt_of_lt_of_le hl (Below.size (by assumption)))).trans (by assumption), (hb.cell (p := ⟨g, 5, none⟩) (Nat.lt_of_lt_of_le hl (Below.size (by assumption)))).trans (by assumption), (hb.cell (p := ⟨n, m, none⟩) (Nat.lt_of_lt_of_le hln (Below.size (by assumption)))).trans (by assumption), Below.trans (by assumption) (hb.mono (Below.size (by assumption)))⟩)
                    | (go_split_ands; refine keep7 (by assumption) hb0 (by assumption) (by assumption) (by assumption) (by assumption) (by assumption) (by assumption) (by assumption) hl hln)
                    | (go_split_ands; refine keep7 (by assumption) hb (by assumption) (by assumption) (by assumption) (by assumption) (by assumption) (by assumption) (by assumption) hl hln)
                    | (go_split_ands; refine keep7 (by assumption) ((Below.refl _ _).alloc (Nat.le_refl _) _) (by assumption) (by assumption) (by assumption) (by assumption) (by assumption) (by assumption) (by assumption) hl hln)
                    | (go_split_ands; refine keep7 (by assumption) (((Below.refl _ _).alloc (Nat.le_refl _) _).drew) (by assumption) (by assumption) (by assumption) (by assumption) (by assumption) (by assumption) (by assumption) hl hln))
                  (first
                    | (go_at_call 8; (try go_split_ands); (with_reducible refine (words_yes _ _ _ _ _ _ _ _).mono ?_); rintro e w' ⟨rfl, hb⟩; have hk : Below wx.heap.size wx w' := (by first | exact hk.trans (hb.mono hk.size) | exact (Below.refl _ _).drew.trans hb))
                    | (go_at_call 9; (try go_split_ands); (first | (with_reducible refine (back_yes _ _ _ _ _ _ _ _ _ _ (words_in (cs := #[.int .u16 32768]) [32768] 1 rfl rfl hu1)).mono ?_) | (with_reducible refine (back_yes _ _ _ _ _ _ _ _ _ _ (words_in (cs := #[.int .u16 32767, .int .u16 65535]) [32767, 65535] 2 rfl rfl hu2)).mono ?_)); rintro e w' ⟨rfl, hb0⟩; have hb := below_behind hb0; have hk : Below wx.heap.size wx w' := (by first | exact hk.trans (hb.mono hk.size) | exact (Below.refl _ _).drew.trans hb)))
                go_wp2_with fail
                go_meet
                go_split_ands
                exact ⟨rfl, by assumption⟩
              case rest =>
                obtain ⟨rfl, hby⟩ := hcut
                obtain ⟨wy, rfl⟩ : ∃ wq : World, wq = wc := ⟨_, rfl⟩
                have HH2 := Lib.hid (HH.out.below hby)
                have HS2 := Lib.hid (HS.out.below hby)
                clear hby HH HS c0 c1 c2 c3 c4 c5 hl nx hln
                go_wp2_with fail
                go_roundg (18 - (m + 1))
                case measure => omega
                case rel => exact ⟨m + 1, by omega, rfl, by go_num, HS2.out, HH2.out⟩
            · obtain rfl : m = 18 := by omega
              obtain ⟨wx, rfl⟩ : ∃ wq : World, wq = wx := ⟨_, rfl⟩
              obtain ⟨c0, c1, c2, c3, c4, c5, hl⟩ := SB.all HS.out
              go_wp2_with fail
              refine (raws_nil _ _ _ _ _ _ _).mono ?_
              rintro e w1 ⟨rfl, hb1⟩
              have K1 := Lib.hid hb1
              have S1 := Lib.hid (HS.out.below hb1)
              clear hb1 c0 c1 c2 c3 c4 c5 hl
              obtain ⟨c0, c1, c2, c3, c4, c5, hl⟩ := SB.all S1.out
              go_wp2_with fail
              refine (raws_yes _ _ _ _ _ _ _ 1 _ (words_in (cs := #[.int .u16 65535]) [65535] 1 rfl rfl hu3)).mono ?_
              rintro e w2 ⟨rfl, hb2⟩
              have hb2 := below_behind hb2
              have K2 := Lib.hid (K1.out.trans (hb2.mono K1.out.size))
              have S2 := Lib.hid (S1.out.below hb2)
              clear hb2 c0 c1 c2 c3 c4 c5 hl
              obtain ⟨c0, c1, c2, c3, c4, c5, hl⟩ := SB.all S2.out
              go_wp2_with fail
              refine (raws_yes _ _ _ _ _ _ _ 2 _ (words_in (cs := #[.int .u16 32768, .int .u16 0]) [32768, 0] 2 rfl rfl hu4)).mono ?_
              rintro e w3 ⟨rfl, hb3⟩
              have hb3 := below_behind hb3
              have K3 := Lib.hid (K2.out.trans (hb3.mono K2.out.size))
              have S3 := Lib.hid (S2.out.below hb3)
              clear hb3 c0 c1 c2 c3 c4 c5 hl
              obtain ⟨c0, c1, c2, c3, c4, c5, hl⟩ := SB.all S3.out
              go_wp2_with fail
              refine (raws_yes _ _ _ _ _ _ _ 2 _ (words_in (cs := #[.int .u16 65535, .int .u16 65534]) [65535, 65534] 2 rfl rfl hu5)).mono ?_
              rintro e w4 ⟨rfl, hb4⟩
              have hb4 := below_behind hb4
              have K4 := Lib.hid (K3.out.trans (hb4.mono K3.out.size))
              have S4 := Lib.hid (S3.out.below hb4)
              clear hb4 c0 c1 c2 c3 c4 c5 hl
              obtain ⟨c0, c1, c2, c3, c4, c5, hl⟩ := SB.all S4.out
              go_wp2_with fail
              refine (raws_yes _ _ _ _ _ _ _ 3 _ (words_in (cs := #[.int .u16 1, .int .u16 2, .int .u16 3]) [1, 2, 3] 3 rfl rfl hu6)).mono ?_
              rintro e w5 ⟨rfl, hb5⟩
              have hb5 := below_behind hb5
              have K5 := Lib.hid (K4.out.trans (hb5.mono K4.out.size))
              have S5 := Lib.hid (S4.out.below hb5)
              clear hb5 c0 c1 c2 c3 c4 c5 hl
              obtain ⟨c0, c1, c2, c3, c4, c5, hl⟩ := SB.all S5.out
              have HH2 := Lib.hid (HH.out.below K5.out)
              clear HH HS c0 c1 c2 c3 c4 c5 hl
              go_wp2_with fail
              go_roundg (8 - (i + 1))
              case measure => omega
              case rel => exact ⟨i + 1, by omega, rfl, by go_num, HH2.out⟩
        · obtain rfl : i = 8 := by omega
          go_wp2_with fail
          go_loopg [11] 6 (fun gm i wr => ∃ k : Nat, k ≤ 6 ∧ gm = 6 - k ∧ i = .int .i64 k ∧ Hold w f a n wr)
          case atStart => exact ⟨0, Nat.zero_le _, rfl, rfl, HH.out⟩
          case round =>
            clear HH
            obtain ⟨i, hi, rfl, rfl, hH⟩ := hrel
            obtain ⟨wz, rfl⟩ : ∃ wq : World, wq = wr := ⟨_, rfl⟩
            have HH := Lib.hid hH
            clear hH
            by_cases hlt : i < 6
            · have hki : (i : Int) < 6 := by omega
              have hk0 : (0 : Int) ≤ (i : Int) := by omega
              obtain ⟨⟨x, nx⟩, hln⟩ := HH.out.2.1.num hlt
              go_wp2_with fail
              refine (values_yes _ _ _ _ _ _ _ _).mono ?_
              rintro e w1 ⟨rfl, hb1⟩
              have nx1 := (hb1.cell (p := ⟨a, i, none⟩) hln).trans nx
              have hl1 := Nat.lt_of_lt_of_le hln hb1.size
              have K1 := Lib.hid hb1
              clear hb1 nx
              go_wp2_with fail
              refine (raws_yes _ _ _ _ _ _ _ 1 _ (words_in (cs := #[.int .u16 1]) [1] 1 rfl rfl hu7)).mono ?_
              rintro e w2 ⟨rfl, hb2⟩
              have hb2 := below_behind hb2
              have HH2 := Lib.hid (HH.out.below (K1.out.trans (hb2.mono K1.out.size)))
              clear HH hb2 nx1 hl1 hln
              go_wp2_with fail
              go_roundg (6 - (i + 1))
              case measure => omega
              case rel => exact ⟨i + 1, by omega, rfl, by go_num, HH2.out⟩
            · obtain rfl : i = 6 := by omega
              go_wp2_with fail
              refine (works_any _).mono ?_
              rintro e w9 ⟨rfl, hb9⟩
              have B9 := Lib.hid (HH.out.2.2.2.trans (hb9.mono HH.out.2.2.2.size))
              go_wp2_with fail
              go_ret
              exact ⟨rfl, B9.out⟩

theorem own : ownKnob Try.prog.godebug = none := by kernel_rfl

set_option maxRecDepth 100000 in
theorem lifted (os : Os) (started : os.Started) (H : Type) (enc : TypeId × Value → H) :
    ReturnsInHanded {} Try.checked os 10 .any (Rows.scaleKnownSpec.pre6 enc Try.prog Try.f10 Rows.scaleKnownRow.domain false) (Rows.scaleKnownSpec.post enc Try.prog Try.f10 false true false false) := by
  refine law_lifted (C := Try.checked) (tb := 4) own started (by kernel_rfl) Try.func10
    (ChangeSpec.witness6 (enc := enc) (C := Try.checked) false ⟨#[], #[], []⟩ 8 (by kernel_rfl) (by kernel_rfl) (by kernel_rfl) (by kernel_rfl))
    rfl (by kernel_rfl) (by kernel_rfl) (by kernel_rfl) Try.underlying4 (fun ds h => ?_) ?_
  · rw [show Try.f10.params = #[] from Try.params10] at h
    match ds, h with
    | [], _ => rfl
  · intro W base args ds before _ hA _ _
    obtain ⟨rfl, rfl, rfl⟩ := trodAll_none (show DataW.TrodAll enc Try.prog W 0 (fun _ => true) true [] args.toList ds before from hA)
    exact walk W

theorem proved : Rows.ScaleKnownSaid :=
  OpenClaim.holds_of_wide 10 Try.f10 rfl rfl rfl rfl rfl rfl rfl ⟨rfl, rfl, rfl, rfl, rfl⟩ rfl rfl rfl rfl rfl (by kernel_rfl) Try.func10 (by kernel_rfl)
    (of_decide_eq_true (by kernel_rfl)) (by unfold Func.isWrapper; rw [if_neg (of_decide_eq_false (by kernel_rfl))]; exact ⟨rfl, rfl⟩)
    (fun os started H enc _ => lifted os started H enc)
#print axioms proved

end ScaleKnown
end Go.Proofs.Ytbfdecfdmigoiaa
