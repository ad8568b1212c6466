/-
  What is proved here: the law AlarmKnown returns true. Conditions: none (it takes no input).
-/
import Derived.Test.YtgkhdoklbbedpaaAlarmSteps
import Derived.Test.YtgkhdoklbbedpaaAlarmTells
import Derived.Test.YtgkhdoklbbedpaaAlarmRuns
import Derived.Test.YtgkhdoklbbedpaaAlarmLatched
import Derived.Test.YtgkhdoklbbedpaaAlarmApart
import Derived.Test.YtgkhdoklbbedpaaAlarmInside
import Derived.Deep.DeepCutAuto
namespace Go.Proofs.Ytgkhdoklbbedpaa
namespace AlarmKnown
open Go.ChangeShapes Go.WideShapes Go.ChangeAt Go.RowKit Go.Deep

theorem ints_of_blk {k : IntKind} {w : World} {g : Nat} {t : TypeId} {cs : Array Value} {L : List Int} (h : Blk w g t cs) (e : cs.toList = L.map (Value.int k)) : IntsAt k w (some ⟨g, 0, none⟩) L := by
  intro _
  refine ⟨g, 0, rfl, h.lt, fun i hi => ?_⟩
  have c0 : (L.map (Value.int k))[i]? = some (.int k (L.getD i 0)) := by simp [hi]
  rw [← e, Array.getElem?_toList] at c0
  simp only [Nat.zero_add]
  exact (h.cell _).trans c0
theorem bools_of_blk {w : World} {g : Nat} {t : TypeId} (h : Blk w g t #[.bool false, .bool false, .bool false, .bool false, .bool false, .bool false, .bool false, .bool false, .bool false, .bool true]) : AlarmRuns.BoolsAt w (some ⟨g, 0, none⟩) (fun i => i == 9) 10 := by
  intro _
  refine ⟨g, 0, rfl, h.lt, fun i hi => ?_⟩
  simp only [Nat.zero_add]
  refine (h.cell i).trans ?_
  match i, hi with
  | 0, _ => rfl
  | 1, _ => rfl
  | 2, _ => rfl
  | 3, _ => rfl
  | 4, _ => rfl
  | 5, _ => rfl
  | 6, _ => rfl
  | 7, _ => rfl
  | 8, _ => rfl
  | 9, _ => rfl
  | n + 10, h => exact absurd h (by omega)
theorem steps_yes (ul uh la : Bool) (lo hi hy st : Int) (wt : Bool) (v : Int) (w : World) :
    Calls Try.prog 6 #[.agg #[.bool ul, .bool uh, .bool la, .int .i64 lo, .int .i64 hi, .int .i64 hy], .agg #[.int .i64 st, .bool wt], .int .i64 v] w fun e w' => e = .returned (.bool true) ∧ Below w.heap.size w w' := AlarmSteps.walk ⟨ul, uh, la, lo, hi, hy⟩ ⟨st, wt⟩ v w
theorem tells_yes (ul uh la : Bool) (lo hi hy st : Int) (wt : Bool) (v : Int) (w : World) :
    Calls Try.prog 3 #[.agg #[.bool ul, .bool uh, .bool la, .int .i64 lo, .int .i64 hi, .int .i64 hy], .agg #[.int .i64 st, .bool wt], .int .i64 v] w fun e w' => e = .returned (.bool true) ∧ Below w.heap.size w w' := AlarmTells.walk ⟨ul, uh, la, lo, hi, hy⟩ ⟨st, wt⟩ v w
theorem band_yes (w : World) : Calls Try.prog 18 #[] w fun e w' => e = .returned (.agg #[.bool true, .bool true, .bool false, .int .i64 10, .int .i64 20, .int .i64 2]) ∧ Below w.heap.size w w' := band_any w
theorem runs_yes (A A' : Option Addr) (n cap n' cap' : Nat) (L : List Int) (B : Nat → Bool) (w : World) (hn : L.length = n) (hA : IntsAt .i64 w A L) (hB : AlarmRuns.BoolsAt w A' B n') (hn' : n' ≤ maxLen) :
    Calls Try.prog 7 #[.agg #[.bool true, .bool true, .bool false, .int .i64 10, .int .i64 20, .int .i64 2], .slice A n cap, .slice A' n' cap'] w fun e w' => e = .returned (.bool true) ∧ Below w.heap.size w w' := by
  subst hn
  exact AlarmRuns.walk bandL A cap L A' n' cap' B w hA hB hn'
theorem latched_yes (A : Option Addr) (n cap : Nat) (L : List Int) (w : World) (hn : L.length = n) (hA : IntsAt .i64 w A L) :
    Calls Try.prog 8 #[.agg #[.bool true, .bool true, .bool false, .int .i64 10, .int .i64 20, .int .i64 2], .slice A n cap] w fun e w' => e = .returned (.bool true) ∧ Below w.heap.size w w' := by
  subst hn
  exact AlarmLatched.walk true true false 10 20 2 A cap L w hA
theorem apart_yes (A : Option Addr) (n cap : Nat) (L : List Int) (w : World) (hn : L.length = n) (hA : IntsAt .i64 w A L) :
    Calls Try.prog 5 #[.agg #[.bool true, .bool true, .bool false, .int .i64 10, .int .i64 20, .int .i64 2], .slice A n cap] w fun e w' => e = .returned (.bool true) ∧ Below w.heap.size w w' := by
  subst hn
  exact AlarmApart.walk bandL A cap L w hA
theorem inside_yes (A : Option Addr) (n cap : Nat) (L : List Int) (b : Bool) (w : World) (hn : L.length = n) (hA : IntsAt .i64 w A L) :
    Calls Try.prog 4 #[.agg #[.bool true, .bool true, .bool false, .int .i64 10, .int .i64 20, .int .i64 2], .slice A n cap, .bool b] w fun e w' => e = .returned (.bool true) ∧ Below w.heap.size w w' := by
  subst hn
  exact AlarmInside.walk bandL A cap L b w hA
def vals : List Int := [15, 10, 12, 13, 9, 25, 18, 17, 9, 15, 15]
def nums : List Int := [-9223372036854775808, -1099511627777, -1099511627776, -1, 0, 1, 9, 10, 11, 12, 13, 17, 18, 19, 20, 21, 1099511627776, 1099511627777, 9223372036854775807]
def numsC : Array Value := (nums.map (Value.int .i64)).toArray
theorem nums_at (k : Nat) (h : k < 19) : numsC[k]? = some (.int .i64 (nums.getD k 0)) := by
  have hl : k < nums.length := h
  simp [numsC, hl]

/-- what the walk holds on to. -/
def Hold (w wr : World) : Prop := (∃ t, Blk wr w.heap.size t numsC) ∧ Below w.heap.size w wr
theorem Hold.below {w wr w' : World} (h : Hold w wr) (hb : Below wr.heap.size wr w') : Hold w w' := by
  obtain ⟨⟨t, ht⟩, h2⟩ := h
  exact ⟨⟨t, Blk.below ht hb ht.lt⟩, h2.trans (hb.mono h2.size)⟩
theorem Hold.set {w wr : World} {g i : Nat} {u : Value} (h : Hold w wr) (hg : w.heap.size < g) : Hold w (wr.setCell ⟨g, i, none⟩ u) := by
  obtain ⟨⟨t, ht⟩, h2⟩ := h
  exact ⟨⟨t, Blk.far (p := ⟨g, i, none⟩) ht (by show w.heap.size ≠ g; omega) u⟩, h2.setCell (p := ⟨g, i, none⟩) (by show w.heap.size ≤ g; omega) u⟩
theorem Hold.lt {w wr : World} (h : Hold w wr) : w.heap.size < wr.heap.size := by
  obtain ⟨⟨t, ht⟩, h2⟩ := h
  exact ht.lt
theorem Hold.num {w wr : World} (h : Hold w wr) (k : Nat) (hk : k < 19) : ∃ x : Int, x = nums.getD k 0 ∧ wr.cell? ⟨w.heap.size, k, none⟩ = some (.int .i64 x) := by
  obtain ⟨⟨t, ht⟩, h2⟩ := h
  exact ⟨_, rfl, (ht.cell k).trans (nums_at k hk)⟩
def SixB (w wr : World) (g : Nat) (ul uh la : Bool) (lo hi hy : Int) : Prop := Blk wr g 23 #[.bool ul, .bool uh, .bool la, .int .i64 lo, .int .i64 hi, .int .i64 hy] ∧ w.heap.size < g
theorem SixB.below {w wr w' : World} {g : Nat} {ul uh la : Bool} {lo hi hy : Int} (h : SixB w wr g ul uh la lo hi hy) (hb : Below wr.heap.size wr w') : SixB w w' g ul uh la lo hi hy := ⟨Blk.below h.1 hb h.1.lt, h.2⟩
theorem SixB.far {w wr : World} {g g' i : Nat} {u : Value} {ul uh la : Bool} {lo hi hy : Int} (h : SixB w wr g ul uh la lo hi hy) (hg : g ≠ g') : SixB w (wr.setCell ⟨g', i, none⟩ u) g ul uh la lo hi hy := ⟨Blk.far (p := ⟨g', i, none⟩) h.1 hg u, h.2⟩
theorem SixB.all {w wr : World} {g : Nat} {ul uh la : Bool} {lo hi hy : Int} (h : SixB w wr g ul uh la lo hi hy) :
    wr.cell? ⟨g, 0, none⟩ = some (.bool ul) ∧ wr.cell? ⟨g, 1, none⟩ = some (.bool uh) ∧ wr.cell? ⟨g, 2, none⟩ = some (.bool la) ∧ wr.cell? ⟨g, 3, none⟩ = some (.int .i64 lo) ∧ wr.cell? ⟨g, 4, none⟩ = some (.int .i64 hi) ∧ wr.cell? ⟨g, 5, none⟩ = some (.int .i64 hy) ∧
      wr.frozen? ⟨g, 0, none⟩ = false ∧ wr.frozen? ⟨g, 1, none⟩ = false ∧ wr.frozen? ⟨g, 2, none⟩ = false ∧ wr.frozen? ⟨g, 3, none⟩ = false ∧ wr.frozen? ⟨g, 4, none⟩ = false ∧ wr.frozen? ⟨g, 5, none⟩ = false ∧ g < wr.heap.size :=
  ⟨h.1.cell 0, h.1.cell 1, h.1.cell 2, h.1.cell 3, h.1.cell 4, h.1.cell 5, h.1.frozen 0, h.1.frozen 1, h.1.frozen 2, h.1.frozen 3, h.1.frozen 4, h.1.frozen 5, h.1.lt⟩

theorem SixB.set0 {w wr : World} {g : Nat} {ul uh la : Bool} {lo hi hy : Int} (h : SixB w wr g ul uh la lo hi hy) (x : Bool) : SixB w (wr.setCell ⟨g, 0, none⟩ (Value.bool x)) g x uh la lo hi hy := ⟨Blk.set_ h.1 0 (Value.bool x), h.2⟩
theorem SixB.set1 {w wr : World} {g : Nat} {ul uh la : Bool} {lo hi hy : Int} (h : SixB w wr g ul uh la lo hi hy) (x : Bool) : SixB w (wr.setCell ⟨g, 1, none⟩ (Value.bool x)) g ul x la lo hi hy := ⟨Blk.set_ h.1 1 (Value.bool x), h.2⟩
theorem SixB.set2 {w wr : World} {g : Nat} {ul uh la : Bool} {lo hi hy : Int} (h : SixB w wr g ul uh la lo hi hy) (x : Bool) : SixB w (wr.setCell ⟨g, 2, none⟩ (Value.bool x)) g ul uh x lo hi hy := ⟨Blk.set_ h.1 2 (Value.bool x), h.2⟩
theorem SixB.set3 {w wr : World} {g : Nat} {ul uh la : Bool} {lo hi hy : Int} (h : SixB w wr g ul uh la lo hi hy) (x : Int) : SixB w (wr.setCell ⟨g, 3, none⟩ (Value.int .i64 x)) g ul uh la x hi hy := ⟨Blk.set_ h.1 3 (Value.int .i64 x), h.2⟩
theorem SixB.set4 {w wr : World} {g : Nat} {ul uh la : Bool} {lo hi hy : Int} (h : SixB w wr g ul uh la lo hi hy) (x : Int) : SixB w (wr.setCell ⟨g, 4, none⟩ (Value.int .i64 x)) g ul uh la lo x hy := ⟨Blk.set_ h.1 4 (Value.int .i64 x), h.2⟩
theorem SixB.set5 {w wr : World} {g : Nat} {ul uh la : Bool} {lo hi hy : Int} (h : SixB w wr g ul uh la lo hi hy) (x : Int) : SixB w (wr.setCell ⟨g, 5, none⟩ (Value.int .i64 x)) g ul uh la lo hi x := ⟨Blk.set_ h.1 5 (Value.int .i64 x), h.2⟩

set_option maxRecDepth 100000 in
set_option maxHeartbeats 20000000 in
theorem walk (w : World) :
    Calls Try.prog 9 #[] w fun e w' => e = .returned (.bool true) ∧ Below w.heap.size w w' := by
  go_enter Try.func9, Try.ntmps9
  go_wp2_with fail
  go_loopg [2] 19 (fun gm i wr => ∃ k : Nat, k ≤ 19 ∧ gm = 19 - k ∧ i = .int .i64 k ∧ Hold w wr)
  case atStart =>
    refine ⟨0, Nat.zero_le _, rfl, rfl, ⟨_, Blk.new _ _ _⟩, by (repeat (first | (with_reducible assumption) | (with_reducible exact Below.refl _ _) | ((with_reducible refine Below.setCell ?_ ?_ _); rotate_left; · (first | omega | (simp; done) | (simp; omega) | (simp at *; omega))) | ((with_reducible refine Below.alloc ?_ ?_ _); rotate_left; · (first | omega | (simp; done) | (simp; omega) | (simp at *; omega))) | (with_reducible refine Below.drew ?_) | (with_reducible refine below_drewN ?_ _) | ((refine Below.trans ?_ (Below.mono (by with_reducible assumption) ?_)); rotate_left; · (first | omega | (simp; done) | (simp; omega) | (simp at *; omega)))))⟩
  case round =>
    obtain ⟨k, hk, rfl, rfl, hH⟩ := hrel
    obtain ⟨wz, rfl⟩ : ∃ wq : World, wq = wr := ⟨_, rfl⟩
    have HH := Lib.hid hH
    clear hH
    by_cases hlt : k < 19
    · have hki : (k : Int) < 19 := by omega
      have hk0 : (0 : Int) ≤ (k : Int) := by omega
      go_wp2_with fail
      go_loopg [3] 8 (fun gm i wr => ∃ j : Nat, j ≤ 8 ∧ gm = 8 - j ∧ i = .int .i64 j ∧ Hold w wr)
      case atStart => exact ⟨0, Nat.zero_le _, rfl, rfl, HH.out⟩
      case round =>
        clear HH
        obtain ⟨j, hj, rfl, rfl, hH⟩ := hrel
        obtain ⟨wv, rfl⟩ : ∃ wq : World, wq = wr := ⟨_, rfl⟩
        have HH := Lib.hid hH
        clear hH
        by_cases hjl : j < 8
        · have hji : (j : Int) < 8 := by omega
          have hj0 : (0 : Int) ≤ (j : Int) := by omega
          go_upto_region 8 with fail
          go_cut [4] (fun s4 wx => ∃ g, s4 = .pointer (some ⟨g, 0, none⟩) ∧ SixB w wx g true true false 10 20 2 ∧ Hold w wx)
          case first =>
            go_wp2_with fail
            refine (band_yes _).mono ?_
            rintro e w1 ⟨rfl, hb1⟩
            have H1 := Lib.hid (HH.out.below hb1)
            go_wp2_with fail
            go_meet
            exact ⟨_, rfl, ⟨Blk.new _ _ _, H1.out.lt⟩, H1.out.below ((Below.refl _ _).alloc (Nat.le_refl _) _)⟩
          case rest =>
          obtain ⟨g, rfl, hS, hH⟩ := hcut
          obtain ⟨wa, rfl⟩ : ∃ wq : World, wq = wc := ⟨_, rfl⟩
          have HS := Lib.hid hS
          clear HH
          have HH := Lib.hid hH
          clear hS hH

          go_upto_region 9 with fail
          go_cut [] (fun wx => ∃ U : Bool, SixB w wx g U true false 10 20 2 ∧ Hold w wx)
          case first =>
            obtain ⟨c0, c1, c2, c3, c4, c5, f0, f1, f2, f3, f4, f5, hl⟩ := SixB.all HS.out
            go_wp2_with fail
            go_meet
            exact ⟨_, SixB.set0 HS.out _, HH.out.set HS.out.2⟩
          case rest =>
          obtain ⟨U, hS, hH⟩ := hcut
          obtain ⟨wb, rfl⟩ : ∃ wq : World, wq = wc := ⟨_, rfl⟩
          clear HS HH
          have HS := Lib.hid hS
          have HH := Lib.hid hH
          clear hS hH
          go_upto_region 10 with fail
          go_cut [] (fun wx => ∃ V : Bool, SixB w wx g U V false 10 20 2 ∧ Hold w wx)
          case first =>
            obtain ⟨c0, c1, c2, c3, c4, c5, f0, f1, f2, f3, f4, f5, hl⟩ := SixB.all HS.out
            go_wp2_with fail
            go_meet
            exact ⟨_, SixB.set1 HS.out _, HH.out.set HS.out.2⟩
          case rest =>
          obtain ⟨V, hS, hH⟩ := hcut
          obtain ⟨wc, rfl⟩ : ∃ wq : World, wq = wc := ⟨_, rfl⟩
          clear HS HH
          have HS := Lib.hid hS
          have HH := Lib.hid hH
          clear hS hH
          go_upto_region 11 with fail
          go_cut [] (fun wx => ∃ La : Bool, SixB w wx g U V La 10 20 2 ∧ Hold w wx)
          case first =>
            obtain ⟨c0, c1, c2, c3, c4, c5, f0, f1, f2, f3, f4, f5, hl⟩ := SixB.all HS.out
            go_wp2_with fail
            go_meet
            exact ⟨_, SixB.set2 HS.out _, HH.out.set HS.out.2⟩
          case rest =>
          obtain ⟨La, hS, hH⟩ := hcut
          obtain ⟨wd, rfl⟩ : ∃ wq : World, wq = wc := ⟨_, rfl⟩
          clear HS HH
          have HS := Lib.hid hS
          have HH := Lib.hid hH
          clear hS hH
          obtain ⟨c0, c1, c2, c3, c4, c5, f0, f1, f2, f3, f4, f5, hl⟩ := SixB.all HS.out
          go_upto_if 36 with fail
          go_cut [] (fun wx => ∃ lo : Int, SixB w wx g U V La lo 20 2 ∧ Hold w wx)
          case first =>
            cases U
            · go_wp2_with fail
              go_meet
              exact ⟨_, SixB.set3 HS.out _, HH.out.set HS.out.2⟩
            · go_wp2_with fail
              go_meet
              exact ⟨_, HS.out, HH.out⟩
          case rest =>
          clear c0 c1 c2 c3 c4 c5 f0 f1 f2 f3 f4 f5 hl
          obtain ⟨lo, hS, hH⟩ := hcut
          obtain ⟨we, rfl⟩ : ∃ wq : World, wq = wc := ⟨_, rfl⟩
          clear HS HH
          have HS := Lib.hid hS
          have HH := Lib.hid hH
          clear hS hH
          obtain ⟨c0, c1, c2, c3, c4, c5, f0, f1, f2, f3, f4, f5, hl⟩ := SixB.all HS.out
          go_upto_if 40 with fail
          go_cut [] (fun wx => ∃ hi : Int, SixB w wx g U V La lo hi 2 ∧ Hold w wx)
          case first =>
            cases V
            · go_wp2_with fail
              go_meet
              exact ⟨_, SixB.set4 HS.out _, HH.out.set HS.out.2⟩
            · go_wp2_with fail
              go_meet
              exact ⟨_, HS.out, HH.out⟩
          case rest =>
          clear c0 c1 c2 c3 c4 c5 f0 f1 f2 f3 f4 f5 hl
          obtain ⟨hi, hS, hH⟩ := hcut
          obtain ⟨wf, rfl⟩ : ∃ wq : World, wq = wc := ⟨_, rfl⟩
          clear HS HH
          have HS := Lib.hid hS
          have HH := Lib.hid hH
          clear hS hH
          go_wp2_with fail
          go_loopg [5] 5 (fun gm i wr => ∃ m : Nat, m ≤ 5 ∧ gm = 5 - m ∧ i = .int .i64 ((m : Int) - 1) ∧ SixB w wr g U V La lo hi 2 ∧ Hold w wr)
          case atStart => exact ⟨0, Nat.zero_le _, rfl, rfl, HS.out, HH.out⟩
          case round =>
            clear HH HS
            obtain ⟨m, hm, rfl, rfl, hS, hH⟩ := hrel
            obtain ⟨wx, rfl⟩ : ∃ wq : World, wq = wr := ⟨_, rfl⟩
            have HS := Lib.hid hS
            have HH := Lib.hid hH
            clear hS hH
            obtain ⟨p, hp, np⟩ := HH.out.num k hlt
            obtain ⟨c0, c1, c2, c3, c4, c5, f0, f1, f2, f3, f4, f5, hl⟩ := SixB.all HS.out
            have hln := HH.out.lt
            clear hp f0 f1 f2 f3 f4 f5
            obtain ⟨s, hs⟩ : ∃ s : Int, s = (m : Int) - 1 := ⟨_, rfl⟩
            rw [← hs]
            have HSM := Lib.hid hs
            by_cases hml : m < 5
            · have hsi : s ≤ 3 := by omega
              have hsb : -1 ≤ s := by omega
              clear hs
              go_upto_region 19 with fail
              go_cut [76] (fun s76 wy => s76 = .bool false ∧ Below wx.heap.size wx wy)
              case first =>
                go_region_held3 (fun w' => w'.cell? ⟨g, 0, none⟩ = some (.bool U) ∧ w'.cell? ⟨g, 1, none⟩ = some (.bool V) ∧ w'.cell? ⟨g, 2, none⟩ = some (.bool La) ∧ w'.cell? ⟨g, 3, none⟩ = some (.int .i64 lo) ∧ w'.cell? ⟨g, 4, none⟩ = some (.int .i64 hi) ∧ w'.cell? ⟨g, 5, none⟩ = some (.int .i64 2) ∧ w'.cell? ⟨w.heap.size, k, none⟩ = some (.int .i64 p) ∧ Below wx.heap.size wx w')
                  (first
                    | exact ⟨c0, c1, c2, c3, c4, c5, np, (Below.refl _ _).drew⟩
                    | (go_split_ands; refine ⟨(hb.cell (p := ⟨g, 0, none⟩) (Nat.lt_of_lt_of_le hl (Below.size (by assumption)))).trans (by assumption), (hb.cell (p := ⟨g, 1, none⟩) (Nat.lt_of_lt_of_le hl (Below.size (by assumption)))).trans (by assumption), (hb.cell (p := ⟨g, 2, none⟩) (Nat.lt_of_lt_of_le hl (Below.size (by assumption)))).trans (by assumption), (hb.cell (p := ⟨g, 3, none⟩) (Nat.lt_of_lt_of_le hl (Below.size (by assumption)))).trans (by assumption), (hb.cell (p := ⟨g, 4, none⟩) (Nat.lt_of_lt_of_le hl (Below.size (by assumption)))).trans (by assumption), (hb.cell (p := ⟨g, 5, none⟩) (Nat.lt_of_lt_of_le hl (Below.size (by assumption)))).trans (by assumption), (hb.cell (p := ⟨w.heap.size, k, none⟩) (Nat.lt_of_lt_of_le hln (Below.size (by assumption)))).trans (by assumption), Below.trans (by assumption) (hb.mono (Below.size (by assumption)))⟩))
                  (first
                    | (go_at_call 6; (try go_split_ands); (with_reducible refine (steps_yes _ _ _ _ _ _ _ _ _ _).mono ?_); rintro e w' ⟨rfl, hb⟩; have hk : Below wx.heap.size wx w' := (by first | exact hk.trans (hb.mono hk.size) | exact (Below.refl _ _).drew.trans hb))
                    | (go_at_call 3; (try go_split_ands); (with_reducible refine (tells_yes _ _ _ _ _ _ _ _ _ _).mono ?_); rintro e w' ⟨rfl, hb⟩; have hk : Below wx.heap.size wx w' := (by first | exact hk.trans (hb.mono hk.size) | exact (Below.refl _ _).drew.trans hb)))
                go_wp2_with fail
                go_meet
                go_split_ands
                exact ⟨rfl, by assumption⟩
              case rest =>
                obtain ⟨rfl, hby⟩ := hcut
                obtain ⟨wy, rfl⟩ : ∃ wq : World, wq = wc := ⟨_, rfl⟩
                have HH2 := Lib.hid (HH.out.below hby)
                have HS2 := Lib.hid (HS.out.below hby)
                clear hby HH HS c0 c1 c2 c3 c4 c5 hl np hln
                go_wp2_with fail
                go_roundg (5 - (m + 1))
                case measure => omega
                case rel => exact ⟨m + 1, by omega, rfl, by rw [show ((m + 1 : Nat) : Int) - 1 = s + 1 by have := HSM.out; omega], HS2.out, HH2.out⟩
            · have hsi : ¬ s ≤ 3 := by omega
              clear hs HSM
              go_upto_region 21 with fail
              go_cut [6] (fun s6 wn => ∃ ga, s6 = .pointer (some ⟨ga, 0, none⟩) ∧ SixB w wn ga U V La lo hi 2 ∧ SixB w wn g U V La lo hi 2 ∧ Hold w wn ∧ g < ga)
              case first =>
                go_wp2_with fail
                go_meet
                exact ⟨_, rfl, ⟨Blk.new _ _ _, HH.out.lt⟩, (HS.out).below ((Below.refl _ _).alloc (Nat.le_refl _) _), HH.out.below ((Below.refl _ _).alloc (Nat.le_refl _) _), HS.out.1.lt⟩
              case rest =>
              obtain ⟨ga, rfl, hga, hS, hH, lgga⟩ := hcut
              obtain ⟨w0, rfl⟩ : ∃ wq : World, wq = wc := ⟨_, rfl⟩
              clear HH np hln c0 c1 c2 c3 c4 c5 hl HS
              have HH := Lib.hid hH
              have Hga := Lib.hid hga
              have HS := Lib.hid hS
              have LGGA := Lib.hid lgga
              clear hH hga hS lgga
              go_upto_region 22 with fail
              go_cut [] (fun wn => ∃ al : Int, SixB w wn ga U V La al hi 2 ∧ SixB w wn g U V La lo hi 2 ∧ Hold w wn)
              case first =>
                obtain ⟨p, hp, np⟩ := HH.out.num k hlt
                clear hp
                obtain ⟨c0, c1, c2, c3, c4, c5, f0, f1, f2, f3, f4, f5, hl⟩ := SixB.all Hga.out
                go_wp2_with fail
                go_meet
                exact ⟨_, SixB.set3 Hga.out _, (HS.out).far (Nat.ne_of_lt LGGA.out), HH.out.set Hga.out.2⟩
              case rest =>
              obtain ⟨al, hga, hS, hH⟩ := hcut
              obtain ⟨w1, rfl⟩ : ∃ wq : World, wq = wc := ⟨_, rfl⟩
              clear HH Hga HS
              have HH := Lib.hid hH
              have Hga := Lib.hid hga
              have HS := Lib.hid hS
              clear hH hga hS LGGA
              obtain ⟨p, hp, np⟩ := HH.out.num k hlt
              obtain ⟨c0, c1, c2, c3, c4, c5, f0, f1, f2, f3, f4, f5, hl⟩ := SixB.all HS.out
              have hln := HH.out.lt
              clear hp f0 f1 f2 f3 f4 f5
              go_upto_region 23 with fail
              go_cut [7] (fun s7 wn => ∃ gb, s7 = .pointer (some ⟨gb, 0, none⟩) ∧ SixB w wn gb U V La lo hi 2 ∧ SixB w wn g U V La lo hi 2 ∧ SixB w wn ga U V La al hi 2 ∧ Hold w wn ∧ g < gb ∧ ga < gb)
              case first =>
                go_wp2_with fail
                go_meet
                exact ⟨_, rfl, ⟨Blk.new _ _ _, HH.out.lt⟩, (HS.out).below ((Below.refl _ _).alloc (Nat.le_refl _) _), (Hga.out).below ((Below.refl _ _).alloc (Nat.le_refl _) _), HH.out.below ((Below.refl _ _).alloc (Nat.le_refl _) _), HS.out.1.lt, Hga.out.1.lt⟩
              case rest =>
              obtain ⟨gb, rfl, hgb, hS, hga, hH, lggb, lgagb⟩ := hcut
              obtain ⟨w2, rfl⟩ : ∃ wq : World, wq = wc := ⟨_, rfl⟩
              clear HH np hln c0 c1 c2 c3 c4 c5 hl HS Hga
              have HH := Lib.hid hH
              have Hgb := Lib.hid hgb
              have HS := Lib.hid hS
              have Hga := Lib.hid hga
              have LGGB := Lib.hid lggb
              have LGAGB := Lib.hid lgagb
              clear hH hgb hS hga lggb lgagb
              go_upto_region 24 with fail
              go_cut [] (fun wn => ∃ bh : Int, SixB w wn gb U V La lo bh 2 ∧ SixB w wn g U V La lo hi 2 ∧ SixB w wn ga U V La al hi 2 ∧ Hold w wn)
              case first =>
                obtain ⟨p, hp, np⟩ := HH.out.num k hlt
                clear hp
                obtain ⟨c0, c1, c2, c3, c4, c5, f0, f1, f2, f3, f4, f5, hl⟩ := SixB.all Hgb.out
                go_wp2_with fail
                go_meet
                exact ⟨_, SixB.set4 Hgb.out _, (HS.out).far (Nat.ne_of_lt LGGB.out), (Hga.out).far (Nat.ne_of_lt LGAGB.out), HH.out.set Hgb.out.2⟩
              case rest =>
              obtain ⟨bh, hgb, hS, hga, hH⟩ := hcut
              obtain ⟨w3, rfl⟩ : ∃ wq : World, wq = wc := ⟨_, rfl⟩
              clear HH Hgb HS Hga
              have HH := Lib.hid hH
              have Hgb := Lib.hid hgb
              have HS := Lib.hid hS
              have Hga := Lib.hid hga
              clear hH hgb hS hga LGGB LGAGB
              obtain ⟨p, hp, np⟩ := HH.out.num k hlt
              obtain ⟨c0, c1, c2, c3, c4, c5, f0, f1, f2, f3, f4, f5, hl⟩ := SixB.all HS.out
              have hln := HH.out.lt
              clear hp f0 f1 f2 f3 f4 f5
              go_upto_region 25 with fail
              go_cut [8] (fun s8 wn => ∃ gc, s8 = .pointer (some ⟨gc, 0, none⟩) ∧ SixB w wn gc U V La lo hi 2 ∧ SixB w wn g U V La lo hi 2 ∧ SixB w wn ga U V La al hi 2 ∧ SixB w wn gb U V La lo bh 2 ∧ Hold w wn ∧ g < gc ∧ ga < gc ∧ gb < gc)
              case first =>
                go_wp2_with fail
                go_meet
                exact ⟨_, rfl, ⟨Blk.new _ _ _, HH.out.lt⟩, (HS.out).below ((Below.refl _ _).alloc (Nat.le_refl _) _), (Hga.out).below ((Below.refl _ _).alloc (Nat.le_refl _) _), (Hgb.out).below ((Below.refl _ _).alloc (Nat.le_refl _) _), HH.out.below ((Below.refl _ _).alloc (Nat.le_refl _) _), HS.out.1.lt, Hga.out.1.lt, Hgb.out.1.lt⟩
              case rest =>
              obtain ⟨gc, rfl, hgc, hS, hga, hgb, hH, lggc, lgagc, lgbgc⟩ := hcut
              obtain ⟨w4, rfl⟩ : ∃ wq : World, wq = wc := ⟨_, rfl⟩
              clear HH np hln c0 c1 c2 c3 c4 c5 hl HS Hga Hgb
              have HH := Lib.hid hH
              have Hgc := Lib.hid hgc
              have HS := Lib.hid hS
              have Hga := Lib.hid hga
              have Hgb := Lib.hid hgb
              have LGGC := Lib.hid lggc
              have LGAGC := Lib.hid lgagc
              have LGBGC := Lib.hid lgbgc
              clear hH hgc hS hga hgb lggc lgagc lgbgc
              go_upto_region 26 with fail
              go_cut [] (fun wn => ∃ cy : Int, SixB w wn gc U V La lo hi cy ∧ SixB w wn g U V La lo hi 2 ∧ SixB w wn ga U V La al hi 2 ∧ SixB w wn gb U V La lo bh 2 ∧ Hold w wn)
              case first =>
                obtain ⟨p, hp, np⟩ := HH.out.num k hlt
                clear hp
                obtain ⟨c0, c1, c2, c3, c4, c5, f0, f1, f2, f3, f4, f5, hl⟩ := SixB.all Hgc.out
                go_wp2_with fail
                go_meet
                exact ⟨_, SixB.set5 Hgc.out _, (HS.out).far (Nat.ne_of_lt LGGC.out), (Hga.out).far (Nat.ne_of_lt LGAGC.out), (Hgb.out).far (Nat.ne_of_lt LGBGC.out), HH.out.set Hgc.out.2⟩
              case rest =>
              obtain ⟨cy, hgc, hS, hga, hgb, hH⟩ := hcut
              obtain ⟨w5, rfl⟩ : ∃ wq : World, wq = wc := ⟨_, rfl⟩
              clear HH Hgc HS Hga Hgb
              have HH := Lib.hid hH
              have Hgc := Lib.hid hgc
              have HS := Lib.hid hS
              have Hga := Lib.hid hga
              have Hgb := Lib.hid hgb
              clear hH hgc hS hga hgb LGGC LGAGC LGBGC
              obtain ⟨wx, rfl⟩ : ∃ wq : World, wq = w5 := ⟨_, rfl⟩
              obtain ⟨a0, a1, a2, a3, a4, a5, _, _, _, _, _, _, hal⟩ := SixB.all Hga.out
              obtain ⟨b0, b1, b2, b3, b4, b5, _, _, _, _, _, _, hbl⟩ := SixB.all Hgb.out
              obtain ⟨d0, d1, d2, d3, d4, d5, _, _, _, _, _, _, hdl⟩ := SixB.all Hgc.out
              go_upto_region 27 with fail
              go_cut [110] (fun s110 wy => s110 = .bool false ∧ Below wx.heap.size wx wy)
              case first =>
                clear b0 b1 b2 b3 b4 b5 d0 d1 d2 d3 d4 d5
                go_wp2_with fail
                refine (steps_yes _ _ _ _ _ _ _ _ _ _).mono ?_
                rintro e v1 ⟨rfl, hb1⟩
                clear a0 a1 a2 a3 a4 a5
                have G2 := Lib.hid ((Hgb.out).below hb1)
                have G3 := Lib.hid ((Hgc.out).below hb1)
                have B1 := Lib.hid hb1
                clear hb1
                obtain ⟨b0, b1, b2, b3, b4, b5, _, _, _, _, _, _, hbl2⟩ := SixB.all G2.out
                go_wp2_with fail
                refine (steps_yes _ _ _ _ _ _ _ _ _ _).mono ?_
                rintro e v2 ⟨rfl, hb2⟩
                clear b0 b1 b2 b3 b4 b5 hbl2
                have G4 := Lib.hid ((G3.out).below hb2)
                have B2 := Lib.hid (B1.out.trans (hb2.mono B1.out.size))
                clear hb2 B1
                obtain ⟨d0, d1, d2, d3, d4, d5, _, _, _, _, _, _, hdl2⟩ := SixB.all G4.out
                go_wp2_with fail
                refine (steps_yes _ _ _ _ _ _ _ _ _ _).mono ?_
                rintro e v3 ⟨rfl, hb3⟩
                have B3 := Lib.hid (B2.out.trans (hb3.mono B2.out.size))
                clear hb3
                go_wp2_with fail
                go_meet
                exact ⟨rfl, B3.out⟩
              case rest =>
                obtain ⟨rfl, hby⟩ := hcut
                have HH2 := Lib.hid (HH.out.below hby)
                clear hby HH HS Hga Hgb Hgc a0 a1 a2 a3 a4 a5 b0 b1 b2 b3 b4 b5 d0 d1 d2 d3 d4 d5
                go_wp2_with fail
                go_roundg (8 - (j + 1))
                case measure => omega
                case rel => exact ⟨j + 1, by omega, rfl, by go_num, HH2.out⟩
        · obtain rfl : j = 8 := by omega
          go_wp2_with fail
          go_roundg (19 - (k + 1))
          case measure => omega
          case rel => exact ⟨k + 1, by omega, rfl, by go_num, HH.out⟩
    · obtain rfl : k = 19 := by omega
      go_upto_region 29 with fail
      go_cut [9] (fun s9 wx => ∃ g, s9 = .slice (some ⟨g, 0, none⟩) 11 11 ∧ IntsAt .i64 wx (some ⟨g, 0, none⟩) vals ∧ Below w.heap.size w wx)
      case first =>
        go_wp2_with fail
        go_meet
        exact ⟨_, rfl, ints_of_blk (Blk.new _ _ _) rfl, HH.out.2.alloc HH.out.2.size _⟩
      case rest =>
      obtain ⟨g, rfl, hV, hB⟩ := hcut
      obtain ⟨wx, rfl⟩ : ∃ wq : World, wq = wc := ⟨_, rfl⟩
      have HV := Lib.hid hV
      have HB := Lib.hid hB
      clear hV hB HH
      go_wp2_with fail
      refine (band_yes _).mono ?_
      rintro e w1 ⟨rfl, hb1⟩
      have V1 := Lib.hid (HV.out.below hb1 (Nat.le_refl _))
      have B1 := Lib.hid (HB.out.trans (hb1.mono HB.out.size))
      clear hb1 HV HB
      go_wp2_with fail
      refine (runs_yes _ _ 11 _ 10 _ vals _ _ rfl (V1.out.below ((Below.refl _ _).alloc (Nat.le_refl _) _) (Nat.le_refl _)) (bools_of_blk (Blk.new _ _ _)) (by decide)).mono ?_
      rintro e w2 ⟨rfl, hb2⟩
      have V2 := Lib.hid (V1.out.below (((Below.refl _ _).alloc (Nat.le_refl _) _).trans (hb2.mono (by simp))) (Nat.le_refl _))
      have B2 := Lib.hid (B1.out.trans ((((Below.refl _ _).alloc (Nat.le_refl _) _).trans (hb2.mono (by simp))).mono B1.out.size))
      clear hb2 V1 B1

      go_wp2_with fail
      refine (band_yes _).mono ?_
      rintro e w3 ⟨rfl, hb3⟩
      have V3 := Lib.hid (V2.out.below hb3 (Nat.le_refl _))
      have B3 := Lib.hid (B2.out.trans (hb3.mono B2.out.size))
      clear hb3 V2 B2
      go_wp2_with fail
      refine (latched_yes _ 11 _ vals _ rfl V3.out).mono ?_
      rintro e w4 ⟨rfl, hb4⟩
      have V4 := Lib.hid (V3.out.below hb4 (Nat.le_refl _))
      have B4 := Lib.hid (B3.out.trans (hb4.mono B3.out.size))
      clear hb4 V3 B3
      go_wp2_with fail
      refine (band_yes _).mono ?_
      rintro e w5 ⟨rfl, hb5⟩
      have V5 := Lib.hid (V4.out.below hb5 (Nat.le_refl _))
      have B5 := Lib.hid (B4.out.trans (hb5.mono B4.out.size))
      clear hb5 V4 B4
      go_wp2_with fail
      refine (apart_yes _ 11 _ vals _ rfl V5.out).mono ?_
      rintro e w6 ⟨rfl, hb6⟩
      have V6 := Lib.hid (V5.out.below hb6 (Nat.le_refl _))
      have B6 := Lib.hid (B5.out.trans (hb6.mono B5.out.size))
      clear hb6 V5 B5
      go_wp2_with fail
      refine (band_yes _).mono ?_
      rintro e w7 ⟨rfl, hb7⟩
      have V7 := Lib.hid (V6.out.below hb7 (Nat.le_refl _))
      have B7 := Lib.hid (B6.out.trans (hb7.mono B6.out.size))
      clear hb7 V6 B6
      go_wp2_with fail
      refine (inside_yes _ 11 _ vals _ _ rfl V7.out).mono ?_
      rintro e w8 ⟨rfl, hb8⟩
      have V8 := Lib.hid (V7.out.below hb8 (Nat.le_refl _))
      have B8 := Lib.hid (B7.out.trans (hb8.mono B7.out.size))
      clear hb8 V7 B7
      go_wp2_with fail
      refine (works_any _).mono ?_
      rintro e w9 ⟨rfl, hb9⟩
      have B9 := Lib.hid (B8.out.trans (hb9.mono B8.out.size))
      go_wp2_with fail
      go_ret
      exact ⟨rfl, B9.out⟩

theorem own : ownKnob Try.prog.godebug = none := by kernel_rfl

set_option maxRecDepth 100000 in
theorem lifted (os : Os) (started : os.Started) (H : Type) (enc : TypeId × Value → H) :
    ReturnsInHanded {} Try.checked os 9 .any (Rows.alarmKnownSpec.pre6 enc Try.prog Try.f9 Rows.alarmKnownRow.domain false) (Rows.alarmKnownSpec.post enc Try.prog Try.f9 false true false false) := by
  refine law_lifted (C := Try.checked) (tb := 4) own started (by kernel_rfl) Try.func9
    (ChangeSpec.witness6 (enc := enc) (C := Try.checked) false ⟨#[], #[], []⟩ 8 (by kernel_rfl) (by kernel_rfl) (by kernel_rfl) (by kernel_rfl))
    rfl (by kernel_rfl) (by kernel_rfl) (by kernel_rfl) Try.underlying4 (fun ds h => ?_) ?_
  · rw [show Try.f9.params = #[] from Try.params9] at h
    match ds, h with
    | [], _ => rfl
  · intro W base args ds before _ hA _ _
    obtain ⟨rfl, rfl, rfl⟩ := trodAll_none (show DataW.TrodAll enc Try.prog W 0 (fun _ => true) true [] args.toList ds before from hA)
    exact walk W

theorem proved : Rows.AlarmKnownSaid :=
  OpenClaim.holds_of_wide 9 Try.f9 rfl rfl rfl rfl rfl rfl rfl ⟨rfl, rfl, rfl, rfl, rfl⟩ rfl rfl rfl rfl rfl (by kernel_rfl) Try.func9 (by kernel_rfl)
    (of_decide_eq_true (by kernel_rfl)) (by unfold Func.isWrapper; rw [if_neg (of_decide_eq_false (by kernel_rfl))]; exact ⟨rfl, rfl⟩)
    (fun os started H enc _ => lifted os started H enc)
#print axioms proved
end AlarmKnown
end Go.Proofs.Ytgkhdoklbbedpaa
