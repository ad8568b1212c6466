/-
  What is proved here: the law RecordKnown returns true. Conditions: none.
-/
import Derived.Test.YtognidoohinipaaRecKnown
namespace Go.Proofs.Ytognidoohinipaa
namespace RecordKnown
open Go.ChangeShapes Go.WideShapes Go.ChangeAt Go.RowKit Go.Deep Go.Joins

def gT : ByteArray := ⟨#[116]⟩
def g1 : ByteArray := ⟨#[49]⟩
theorem name_T : nameB gT = true := by kernel_rfl
theorem name_1 : nameB g1 = false := by kernel_rfl
def want1 : List Int := [1, 0, 0, 0, 0, 0, 0, 1, 2, 1, 116, 255, 255, 255, 255, 255, 255, 255, 255]
def want2 : List Int := [6, 0, 0, 0, 0, 0, 0, 0, 1, 0, 0, 0, 0, 0, 0, 0, 7, 0, 0, 0, 0, 0, 0, 0, 102]
theorem err1 : recErr ⟨1, 258, gT, -1, 0⟩ = 0 := by kernel_rfl
theorem err2 : recErr ⟨6, 1, noG, 102, 7⟩ = 0 := by kernel_rfl
theorem put1 : putR ⟨1, 258, gT, -1, 0⟩ = (want1, 0) := by unfold putR; rw [if_pos err1]; exact congrArg (·, 0) (by kernel_rfl)
theorem put2 : putR ⟨6, 1, noG, 102, 7⟩ = (want2, 0) := by unfold putR; rw [if_pos err2]; exact congrArg (·, 0) (by kernel_rfl)
def badL : List (List Int) := [[], [7], [0], [1], [4, 0, 0, 0, 0, 0, 0, 0, 0, 0, 0, 0, 0, 0, 0, 0, 0], [4, 0, 0, 0, 0, 0, 0, 0, 0, 0, 0, 0, 0, 0, 0, 0, 3, 0], [5, 0, 0, 0, 0, 0, 0, 0, 0], [5, 128, 0, 0, 0, 0, 0, 0, 0, 0, 0, 0, 0, 0, 0, 0, 1]]
def noL : List Int := [1, 28, 28, 1, 3, 2, 1, 3]
theorem bad_all : badL.map getS = noL.map (fun e => (zeroR, e)) := by kernel_rfl
theorem bad_get {i : Nat} (hi : i < 8) : getS (badL.getD i []) = (zeroR, noL.getD i 0) := by
  have h := congrArg (fun l => l[i]?) bad_all
  simp only [List.getElem?_map] at h
  have h1 : i < badL.length := hi
  have h2 : i < noL.length := hi
  rw [List.getElem?_eq_getElem h1, List.getElem?_eq_getElem h2] at h
  simp only [Option.map_some, Option.some.injEq] at h
  rw [List.getD_eq_getElem?_getD, List.getElem?_eq_getElem h1, List.getD_eq_getElem?_getD, List.getElem?_eq_getElem h2]
  exact h
theorem bad_u8 : ∀ i, i < 8 → ∀ x ∈ badL.getD i [], U8 x := by
  intro i hi
  match i, hi with
  | 0, _ => exact small_u8 rfl
  | 1, _ => exact small_u8 rfl
  | 2, _ => exact small_u8 rfl
  | 3, _ => exact small_u8 rfl
  | 4, _ => exact small_u8 rfl
  | 5, _ => exact small_u8 rfl
  | 6, _ => exact small_u8 rfl
  | 7, _ => exact small_u8 rfl
theorem bad_len : ∀ i, i < 8 → (badL.getD i []).length ≤ 18 := by decide
def recs : List Rec := [⟨4, 0, noG, 3, 1⟩, ⟨1, 0, g1, 0, 0⟩, ⟨1, -1, g1, 0, 0⟩, ⟨5, 0, noG, 1, 1⟩, ⟨3, 0, gT, 1, 0⟩, ⟨2, 0, gT, 4, 0⟩, ⟨2, 0, gT, 5, 0⟩, ⟨2, 0, gT, 0, 0⟩, ⟨6, 0, noG, 255, 1⟩, ⟨6, 0, noG, 256, 1⟩, ⟨6, 0, noG, 0, 0⟩, ⟨5, 1099511627776, noG, 0, 1099511627776⟩, ⟨5, 0, noG, 0, 1099511627777⟩, ⟨3, 0, noG, 0, 0⟩, ⟨1, 0, gT, -1099511627776, 0⟩, ⟨1, 0, gT, -1099511627777, 0⟩, ⟨4, 0, noG, 1099511627777, 0⟩, ⟨4, 1099511627777, noG, 1, 0⟩]
def errs : List Int := [23, 8, 3, 23, 23, 0, 3, 3, 0, 3, 3, 0, 3, 3, 0, 3, 3, 3]
theorem recs_err : recs.map recErr = errs := by kernel_rfl
theorem recs_at {i : Nat} (h : i < 18) : recErr (recs.getD i zeroR) = errs.getD i 0 := by
  rw [← recs_err]
  have hl : i < recs.length := h
  simp [hl]
theorem recs_small : ∀ i, i < 18 → (recs.getD i zeroR).g.size ≤ 16 := by decide

def recC : Array Value := #[.int .i64 4, .int .i64 0, .string noG, .int .i64 3, .int .i64 1, .int .i64 1, .int .i64 0, .string g1, .int .i64 0, .int .i64 0, .int .i64 1, .int .i64 (-1), .string g1, .int .i64 0, .int .i64 0, .int .i64 5, .int .i64 0, .string noG, .int .i64 1, .int .i64 1, .int .i64 3, .int .i64 0, .string gT, .int .i64 1, .int .i64 0, .int .i64 2, .int .i64 0, .string gT, .int .i64 4, .int .i64 0, .int .i64 2, .int .i64 0, .string gT, .int .i64 5, .int .i64 0, .int .i64 2, .int .i64 0, .string gT, .int .i64 0, .int .i64 0, .int .i64 6, .int .i64 0, .string noG, .int .i64 255, .int .i64 1, .int .i64 6, .int .i64 0, .string noG, .int .i64 256, .int .i64 1, .int .i64 6, .int .i64 0, .string noG, .int .i64 0, .int .i64 0, .int .i64 5, .int .i64 1099511627776, .string noG, .int .i64 0, .int .i64 1099511627776, .int .i64 5, .int .i64 0, .string noG, .int .i64 0, .int .i64 1099511627777, .int .i64 3, .int .i64 0, .string noG, .int .i64 0, .int .i64 0, .int .i64 1, .int .i64 0, .string gT, .int .i64 (-1099511627776), .int .i64 0, .int .i64 1, .int .i64 0, .string gT, .int .i64 (-1099511627777), .int .i64 0, .int .i64 4, .int .i64 0, .string noG, .int .i64 1099511627777, .int .i64 0, .int .i64 4, .int .i64 1099511627777, .string noG, .int .i64 1, .int .i64 0]
theorem recC_at : ∀ i, i < 18 → recC[i * 5]? = some (.int .i64 (recs.getD i zeroR).k) ∧ recC[i * 5 + 1]? = some (.int .i64 (recs.getD i zeroR).t) ∧ recC[i * 5 + 2]? = some (.string (recs.getD i zeroR).g) ∧ recC[i * 5 + 3]? = some (.int .i64 (recs.getD i zeroR).v) ∧ recC[i * 5 + 4]? = some (.int .i64 (recs.getD i zeroR).i) := by
  intro i hi
  have h : i = 0 ∨ i = 1 ∨ i = 2 ∨ i = 3 ∨ i = 4 ∨ i = 5 ∨ i = 6 ∨ i = 7 ∨ i = 8 ∨ i = 9 ∨ i = 10 ∨ i = 11 ∨ i = 12 ∨ i = 13 ∨ i = 14 ∨ i = 15 ∨ i = 16 ∨ i = 17 := by omega
  rcases h with rfl | rfl | rfl | rfl | rfl | rfl | rfl | rfl | rfl | rfl | rfl | rfl | rfl | rfl | rfl | rfl | rfl | rfl
  all_goals exact ⟨rfl, rfl, rfl, rfl, rfl⟩
theorem ints_blk {w : World} {g : Nat} {L : List Int} {cs : Array Value} {k : IntKind} {T : TypeId} (h : Blk w g T cs) (e : cs.toList = L.map (Value.int k)) : IntsAt k w (some ⟨g, 0, none⟩) L := by
  intro _
  refine ⟨g, 0, rfl, h.lt, fun i hi => ?_⟩
  rw [Nat.zero_add, h.cell, ← Array.getElem?_toList, e]
  exact ints_get k L i hi
def allocL (w : World) : List (Array Value) → World
  | [] => w
  | c :: cs => allocL (w.alloc (.cells c 5)) cs
theorem allocL_below : ∀ (cs : List (Array Value)) (w : World), Below w.heap.size w (allocL w cs)
  | [], w => Below.refl _ _
  | c :: cs, w => ((Below.refl w.heap.size w).alloc (Nat.le_refl _) (.cells c 5)).trans ((allocL_below cs (w.alloc (.cells c 5))).mono (by simp))
theorem allocL_size : ∀ (cs : List (Array Value)) (w : World), (allocL w cs).heap.size = w.heap.size + cs.length
  | [], _ => rfl
  | c :: cs, w => by
    show (allocL (w.alloc (.cells c 5)) cs).heap.size = _
    rw [allocL_size cs]
    simp
    omega
theorem allocL_blk : ∀ (cs : List (Array Value)) (w : World) (j : Nat), j < cs.length → Blk (allocL w cs) (w.heap.size + j) 5 (cs.getD j #[])
  | [], _, _, h => absurd h (by simp)
  | c :: cs, w, 0, _ => (Blk.new w 5 c).below (allocL_below cs _) (by simp)
  | c :: cs, w, j + 1, h => by
    have := allocL_blk cs (w.alloc (.cells c 5)) j (by simpa using h)
    rw [World.size_alloc] at this
    have e : w.heap.size + 1 + j = w.heap.size + (j + 1) := by omega
    rw [e] at this
    exact this
/-- rows of bytes. -/
def Rows8 (w : World) (g : Nat) : Prop := g < w.heap.size ∧ ∀ i, i < 8 → ∃ Ai ci, w.cell? ⟨g, i, none⟩ = some (.slice Ai (badL.getD i []).length ci) ∧ IntsAt .u8 w Ai (badL.getD i []) ∧ (badL.getD i []).length ≤ ci
theorem Rows8.below {w w' : World} {g : Nat} (h : Rows8 w g) (hb : Below w.heap.size w w') : Rows8 w' g := by
  refine ⟨Nat.lt_of_lt_of_le h.1 hb.size, fun i hi => ?_⟩
  obtain ⟨A, c, h1, h2, h3⟩ := h.2 i hi
  exact ⟨A, c, (hb.cell (p := ⟨g, i, none⟩) h.1).trans h1, h2.below hb (Nat.le_refl _), h3⟩

set_option maxRecDepth 100000 in
set_option maxHeartbeats 2000000 in
theorem walk (w : World) : Calls Try.prog 8 #[] w fun e w' => e = .returned (.bool true) ∧ Below w.heap.size w w' := by
  go_enter Try.func8, Try.ntmps8
  go_wp2_with fail
  refine (put_is 1 258 gT (-1) 0 want1 0 _ (by decide) put1).mono ?_
  rintro e w1 ⟨A1, k1, rfl, ho1, hb1⟩
  have HR1 := Lib.hid (reads_own ho1)
  have B1 := Lib.hid hb1
  clear ho1 hb1
  go_wp2_with fail
  refine (put_is 6 1 noG 102 7 want2 0 _ (by decide) put2).mono ?_
  rintro e w2 ⟨A2, k2, rfl, ho2, hb2⟩
  have HR12 := Lib.hid (HR1.out.below hb2)
  have HR2 := Lib.hid (reads_own ho2)
  have B2 := Lib.hid (B1.out.trans (hb2.mono B1.out.size))
  clear ho2 hb2
  go_wp2_with fail
  have HI3 := Lib.hid (own_ints (own_new (E := 5) w2 want1 0 (Nat.zero_le _) (by decide) #[.int .u8 1, .int .u8 0, .int .u8 0, .int .u8 0, .int .u8 0, .int .u8 0, .int .u8 0, .int .u8 1, .int .u8 2, .int .u8 1, .int .u8 116, .int .u8 255, .int .u8 255, .int .u8 255, .int .u8 255, .int .u8 255, .int .u8 255, .int .u8 255, .int .u8 255] rfl))
  have N3 := Lib.hid ((Below.refl w2.heap.size w2).alloc (Nat.le_refl _) (.cells #[.int .u8 1, .int .u8 0, .int .u8 0, .int .u8 0, .int .u8 0, .int .u8 0, .int .u8 0, .int .u8 1, .int .u8 2, .int .u8 1, .int .u8 116, .int .u8 255, .int .u8 255, .int .u8 255, .int .u8 255, .int .u8 255, .int .u8 255, .int .u8 255, .int .u8 255] 5))
  refine (Bytes.same_yes (L := want1) (HR12.out.below N3.out) ⟨_, _, rfl, HI3.out⟩ (by decide)).mono ?_
  rintro e w3 ⟨rfl, hb3⟩
  have N23 := Lib.hid (N3.out.trans (hb3.mono N3.out.size))
  have HR23 := Lib.hid (HR2.out.below N23.out)
  have B3 := Lib.hid (B2.out.trans (N23.out.mono B2.out.size))
  clear hb3 HI3 N3 N23 HR12
  go_wp2_with fail
  have HI4 := Lib.hid (own_ints (own_new (E := 5) w3 want2 0 (Nat.zero_le _) (by decide) #[.int .u8 6, .int .u8 0, .int .u8 0, .int .u8 0, .int .u8 0, .int .u8 0, .int .u8 0, .int .u8 0, .int .u8 1, .int .u8 0, .int .u8 0, .int .u8 0, .int .u8 0, .int .u8 0, .int .u8 0, .int .u8 0, .int .u8 7, .int .u8 0, .int .u8 0, .int .u8 0, .int .u8 0, .int .u8 0, .int .u8 0, .int .u8 0, .int .u8 102] rfl))
  have N4 := Lib.hid ((Below.refl w3.heap.size w3).alloc (Nat.le_refl _) (.cells #[.int .u8 6, .int .u8 0, .int .u8 0, .int .u8 0, .int .u8 0, .int .u8 0, .int .u8 0, .int .u8 0, .int .u8 1, .int .u8 0, .int .u8 0, .int .u8 0, .int .u8 0, .int .u8 0, .int .u8 0, .int .u8 0, .int .u8 7, .int .u8 0, .int .u8 0, .int .u8 0, .int .u8 0, .int .u8 0, .int .u8 0, .int .u8 0, .int .u8 102] 5))
  refine (Bytes.same_yes (L := want2) (HR23.out.below N4.out) ⟨_, _, rfl, HI4.out⟩ (by decide)).mono ?_
  rintro e w4 ⟨rfl, hb4⟩
  have B4 := Lib.hid (B3.out.trans ((N4.out.trans (hb4.mono N4.out.size)).mono B3.out.size))
  clear hb4 HI4 N4 HR23 HR2
  go_upto_region 5 with fail
  go_cut [5] (fun s5 wx => ∃ gb, s5 = .slice (some ⟨gb, 0, none⟩) 8 8 ∧ Rows8 wx gb ∧ Below w4.heap.size w4 wx)
  case first =>
    have HA := Lib.hid (allocL_blk [#[.int .u8 7], #[.int .u8 0], #[.int .u8 1], #[.int .u8 4, .int .u8 0, .int .u8 0, .int .u8 0, .int .u8 0, .int .u8 0, .int .u8 0, .int .u8 0, .int .u8 0, .int .u8 0, .int .u8 0, .int .u8 0, .int .u8 0, .int .u8 0, .int .u8 0, .int .u8 0, .int .u8 0], #[.int .u8 4, .int .u8 0, .int .u8 0, .int .u8 0, .int .u8 0, .int .u8 0, .int .u8 0, .int .u8 0, .int .u8 0, .int .u8 0, .int .u8 0, .int .u8 0, .int .u8 0, .int .u8 0, .int .u8 0, .int .u8 0, .int .u8 3, .int .u8 0], #[.int .u8 5, .int .u8 0, .int .u8 0, .int .u8 0, .int .u8 0, .int .u8 0, .int .u8 0, .int .u8 0, .int .u8 0], #[.int .u8 5, .int .u8 128, .int .u8 0, .int .u8 0, .int .u8 0, .int .u8 0, .int .u8 0, .int .u8 0, .int .u8 0, .int .u8 0, .int .u8 0, .int .u8 0, .int .u8 0, .int .u8 0, .int .u8 0, .int .u8 0, .int .u8 1]] w4)
    have HAB := Lib.hid (allocL_below [#[.int .u8 7], #[.int .u8 0], #[.int .u8 1], #[.int .u8 4, .int .u8 0, .int .u8 0, .int .u8 0, .int .u8 0, .int .u8 0, .int .u8 0, .int .u8 0, .int .u8 0, .int .u8 0, .int .u8 0, .int .u8 0, .int .u8 0, .int .u8 0, .int .u8 0, .int .u8 0, .int .u8 0], #[.int .u8 4, .int .u8 0, .int .u8 0, .int .u8 0, .int .u8 0, .int .u8 0, .int .u8 0, .int .u8 0, .int .u8 0, .int .u8 0, .int .u8 0, .int .u8 0, .int .u8 0, .int .u8 0, .int .u8 0, .int .u8 0, .int .u8 3, .int .u8 0], #[.int .u8 5, .int .u8 0, .int .u8 0, .int .u8 0, .int .u8 0, .int .u8 0, .int .u8 0, .int .u8 0, .int .u8 0], #[.int .u8 5, .int .u8 128, .int .u8 0, .int .u8 0, .int .u8 0, .int .u8 0, .int .u8 0, .int .u8 0, .int .u8 0, .int .u8 0, .int .u8 0, .int .u8 0, .int .u8 0, .int .u8 0, .int .u8 0, .int .u8 0, .int .u8 1]] w4)
    have HAS := Lib.hid (allocL_size [#[.int .u8 7], #[.int .u8 0], #[.int .u8 1], #[.int .u8 4, .int .u8 0, .int .u8 0, .int .u8 0, .int .u8 0, .int .u8 0, .int .u8 0, .int .u8 0, .int .u8 0, .int .u8 0, .int .u8 0, .int .u8 0, .int .u8 0, .int .u8 0, .int .u8 0, .int .u8 0, .int .u8 0], #[.int .u8 4, .int .u8 0, .int .u8 0, .int .u8 0, .int .u8 0, .int .u8 0, .int .u8 0, .int .u8 0, .int .u8 0, .int .u8 0, .int .u8 0, .int .u8 0, .int .u8 0, .int .u8 0, .int .u8 0, .int .u8 0, .int .u8 3, .int .u8 0], #[.int .u8 5, .int .u8 0, .int .u8 0, .int .u8 0, .int .u8 0, .int .u8 0, .int .u8 0, .int .u8 0, .int .u8 0], #[.int .u8 5, .int .u8 128, .int .u8 0, .int .u8 0, .int .u8 0, .int .u8 0, .int .u8 0, .int .u8 0, .int .u8 0, .int .u8 0, .int .u8 0, .int .u8 0, .int .u8 0, .int .u8 0, .int .u8 0, .int .u8 0, .int .u8 1]] w4)
    have hnew := Blk.new (allocL w4 [#[.int .u8 7], #[.int .u8 0], #[.int .u8 1], #[.int .u8 4, .int .u8 0, .int .u8 0, .int .u8 0, .int .u8 0, .int .u8 0, .int .u8 0, .int .u8 0, .int .u8 0, .int .u8 0, .int .u8 0, .int .u8 0, .int .u8 0, .int .u8 0, .int .u8 0, .int .u8 0, .int .u8 0], #[.int .u8 4, .int .u8 0, .int .u8 0, .int .u8 0, .int .u8 0, .int .u8 0, .int .u8 0, .int .u8 0, .int .u8 0, .int .u8 0, .int .u8 0, .int .u8 0, .int .u8 0, .int .u8 0, .int .u8 0, .int .u8 0, .int .u8 3, .int .u8 0], #[.int .u8 5, .int .u8 0, .int .u8 0, .int .u8 0, .int .u8 0, .int .u8 0, .int .u8 0, .int .u8 0, .int .u8 0], #[.int .u8 5, .int .u8 128, .int .u8 0, .int .u8 0, .int .u8 0, .int .u8 0, .int .u8 0, .int .u8 0, .int .u8 0, .int .u8 0, .int .u8 0, .int .u8 0, .int .u8 0, .int .u8 0, .int .u8 0, .int .u8 0, .int .u8 1]]) 24 #[.slice none 0 0, .slice (some ⟨w4.heap.size, 0, none⟩) 1 1, .slice (some ⟨w4.heap.size + 1, 0, none⟩) 1 1, .slice (some ⟨w4.heap.size + 2, 0, none⟩) 1 1, .slice (some ⟨w4.heap.size + 3, 0, none⟩) 17 17, .slice (some ⟨w4.heap.size + 4, 0, none⟩) 18 18, .slice (some ⟨w4.heap.size + 5, 0, none⟩) 9 9, .slice (some ⟨w4.heap.size + 6, 0, none⟩) 17 17]
    rw [HAS.out] at hnew
    have HNW := Lib.hid hnew
    clear hnew
    go_wp2_with fail
    go_meet
    refine ⟨w4.heap.size + 7, rfl, ⟨by simp, fun i hi => ?_⟩, ?_⟩
    · match i, hi with
      | 0, _ => exact ⟨none, 0, HNW.out.cell 0, IntsAt.nil_ _ _ _, by decide⟩
      | 1, _ => exact ⟨_, 1, HNW.out.cell 1, (ints_blk (HA.out 0 (by decide)) rfl).alloc _, by decide⟩
      | 2, _ => exact ⟨_, 1, HNW.out.cell 2, (ints_blk (HA.out 1 (by decide)) rfl).alloc _, by decide⟩
      | 3, _ => exact ⟨_, 1, HNW.out.cell 3, (ints_blk (HA.out 2 (by decide)) rfl).alloc _, by decide⟩
      | 4, _ => exact ⟨_, 17, HNW.out.cell 4, (ints_blk (HA.out 3 (by decide)) rfl).alloc _, by decide⟩
      | 5, _ => exact ⟨_, 18, HNW.out.cell 5, (ints_blk (HA.out 4 (by decide)) rfl).alloc _, by decide⟩
      | 6, _ => exact ⟨_, 9, HNW.out.cell 6, (ints_blk (HA.out 5 (by decide)) rfl).alloc _, by decide⟩
      | 7, _ => exact ⟨_, 17, HNW.out.cell 7, (ints_blk (HA.out 6 (by decide)) rfl).alloc _, by decide⟩
    · exact HAB.out.alloc (by rw [HAS.out]; omega) _
  case rest =>
  obtain ⟨gb, rfl, hrow, hb5⟩ := hcut
  obtain ⟨w5, rfl⟩ : ∃ wq : World, wq = wc := ⟨_, rfl⟩
  have HRW := Lib.hid (hrow.below ((Below.refl w5.heap.size w5).alloc (Nat.le_refl _) (.cells #[.int .i64 1, .int .i64 28, .int .i64 28, .int .i64 1, .int .i64 3, .int .i64 2, .int .i64 1, .int .i64 3] 3)))
  have B5 := Lib.hid (B4.out.trans (hb5.mono B4.out.size))
  have HNO := Lib.hid (Blk.new w5 3 #[.int .i64 1, .int .i64 28, .int .i64 28, .int .i64 1, .int .i64 3, .int .i64 2, .int .i64 1, .int .i64 3])
  obtain ⟨w6, hw6⟩ : ∃ w6 : World, w6 = w5.alloc (.cells #[.int .i64 1, .int .i64 28, .int .i64 28, .int .i64 1, .int .i64 3, .int .i64 2, .int .i64 1, .int .i64 3] 3) := ⟨_, rfl⟩
  have B6 := Lib.hid (show Below w.heap.size w w6 by rw [hw6]; exact B5.out.alloc B5.out.size _)
  obtain ⟨gn, hgn⟩ : ∃ gn, gn = w5.heap.size := ⟨_, rfl⟩
  rw [← hw6, ← hgn] at HNO
  rw [← hw6] at HRW
  clear hrow hb5
  go_upto_region 7 with fail
  rw [← hw6, ← hgn]
  clear hw6 hgn
  go_wp2_with fail
  go_loopg [7] 8 (fun gm iv wr => ∃ i : Nat, i ≤ 8 ∧ gm = 8 - i ∧ iv = .int .i64 i ∧ Below w6.heap.size w6 wr)
  case atStart => exact ⟨0, by omega, rfl, rfl, Below.refl _ _⟩
  case round =>
    obtain ⟨i, hi, rfl, rfl, hbw⟩ := hrel
    obtain ⟨wy, rfl⟩ : ∃ wq : World, wq = wr := ⟨_, rfl⟩
    have HBW := Lib.hid hbw
    by_cases hlt : i < 8
    · have hii : (i : Int) < 8 := by omega
      have hi0 : (0 : Int) ≤ (i : Int) := by omega
      have hrw := HRW.out.below hbw
      obtain ⟨Ai, ci, hc, hints, hle⟩ := hrw.2 i hlt
      have hgl := hrw.1
      have hno := HNO.out.below hbw HNO.out.lt
      have hcn := hno.cell i
      have hnl := hno.lt
      rw [show (#[.int .i64 1, .int .i64 28, .int .i64 28, .int .i64 1, .int .i64 3, .int .i64 2, .int .i64 1, .int .i64 3] : Array Value)[i]? = some (.int .i64 (noL.getD i 0)) by rw [← Array.getElem?_toList]; exact ints_get .i64 noL i hlt] at hcn
      have HU := Lib.hid (bad_u8 i hlt)
      have HG := Lib.hid (bad_get hlt)
      have hlen := bad_len i hlt
      obtain ⟨L, hL⟩ : ∃ L, L = badL.getD i [] := ⟨_, rfl⟩
      obtain ⟨x, hx⟩ : ∃ x, x = noL.getD i 0 := ⟨_, rfl⟩
      rw [← hL] at hc hints hle hlen HU HG
      rw [← hx] at hcn HG
      have HIN := Lib.hid hints
      obtain ⟨n, hn⟩ : ∃ n, n = L.length := ⟨_, rfl⟩
      have HN := Lib.hid hn.symm
      rw [← hn] at hc hle hlen
      have HNOB := Lib.hid hno
      clear hints hbw hL hx hn hrw hno
      go_wp2_with fail
      refine (get_is Ai n ci L 0 0 noG 0 0 x _ HG.out HN.out HIN.out HU.out (by omega) hle).mono ?_
      rintro e wz ⟨rfl, hbz⟩
      have hno2 := HNOB.out.below hbz HNOB.out.lt
      have hcn2 := hno2.cell i
      have hnl2 := hno2.lt
      rw [show (#[.int .i64 1, .int .i64 28, .int .i64 28, .int .i64 1, .int .i64 3, .int .i64 2, .int .i64 1, .int .i64 3] : Array Value)[i]? = some (.int .i64 x) from (HNOB.out.cell i).symm.trans hcn] at hcn2
      have HBZ := Lib.hid (HBW.out.trans (hbz.mono HBW.out.size))
      have hzz := HBZ.out.size
      clear hbz hno2 hc hcn hgl hnl
      go_wp2_with fail
      go_roundg (8 - (i + 1))
      case measure => omega
      case rel => exact ⟨i + 1, by omega, rfl, by go_num, by have := HBZ.out; (repeat (first | (with_reducible assumption) | (with_reducible exact Below.refl _ _) | ((with_reducible refine Below.setCell ?_ ?_ _); rotate_left; · (first | omega | (simp; done) | (simp; omega) | (simp at *; omega))) | ((with_reducible refine Below.alloc ?_ ?_ _); rotate_left; · (first | omega | (simp; done) | (simp; omega) | (simp at *; omega))) | (with_reducible refine Below.drew ?_) | (with_reducible refine below_drewN ?_ _) | ((refine Below.trans ?_ (Below.mono (by with_reducible assumption) ?_)); rotate_left; · (first | omega | (simp; done) | (simp; omega) | (simp at *; omega)))))⟩
    · obtain rfl : i = 8 := by omega
      have hii : ¬ ((8 : Nat) : Int) < 8 := by omega
      have B7 := Lib.hid (B6.out.trans (hbw.mono B6.out.size))
      clear hbw HBW HRW HNO
      go_upto_region 13 with fail
      go_cut [10] (fun s10 wx => s10 = .slice (some ⟨wy.heap.size, 0, none⟩) 18 18 ∧ Blk wx wy.heap.size 23 recC ∧ Below wy.heap.size wy wx)
      case first =>
        have HNW := Lib.hid (Blk.new wy 23 recC)
        have HNB := Lib.hid ((Below.refl wy.heap.size wy).alloc (Nat.le_refl _) (.cells recC 23))
        go_wp2_with fail
        go_meet
        exact ⟨rfl, HNW.out, HNB.out⟩
      case rest =>
      obtain ⟨rfl, hrc, hbc⟩ := hcut
      obtain ⟨w8, rfl⟩ : ∃ wq : World, wq = wc := ⟨_, rfl⟩
      have B8 := Lib.hid (B7.out.trans (hbc.mono B7.out.size))
      obtain ⟨gr, hgr⟩ : ∃ gr, gr = wy.heap.size := ⟨_, rfl⟩
      rw [← hgr] at hrc ⊢
      have HRC := Lib.hid (hrc.alloc (.cells #[.int .i64 23, .int .i64 8, .int .i64 3, .int .i64 23, .int .i64 23, .int .i64 0, .int .i64 3, .int .i64 3, .int .i64 0, .int .i64 3, .int .i64 3, .int .i64 0, .int .i64 3, .int .i64 3, .int .i64 0, .int .i64 3, .int .i64 3, .int .i64 3] 3))
      have HER := Lib.hid (Blk.new w8 3 #[.int .i64 23, .int .i64 8, .int .i64 3, .int .i64 23, .int .i64 23, .int .i64 0, .int .i64 3, .int .i64 3, .int .i64 0, .int .i64 3, .int .i64 3, .int .i64 0, .int .i64 3, .int .i64 3, .int .i64 0, .int .i64 3, .int .i64 3, .int .i64 3])
      obtain ⟨w9, hw9⟩ : ∃ w9 : World, w9 = w8.alloc (.cells #[.int .i64 23, .int .i64 8, .int .i64 3, .int .i64 23, .int .i64 23, .int .i64 0, .int .i64 3, .int .i64 3, .int .i64 0, .int .i64 3, .int .i64 3, .int .i64 0, .int .i64 3, .int .i64 3, .int .i64 0, .int .i64 3, .int .i64 3, .int .i64 3] 3) := ⟨_, rfl⟩
      obtain ⟨ge, hge⟩ : ∃ ge, ge = w8.heap.size := ⟨_, rfl⟩
      have B9 := Lib.hid (show Below w.heap.size w w9 by rw [hw9]; exact B8.out.alloc B8.out.size _)
      rw [← hw9] at HRC
      rw [← hw9, ← hge] at HER
      clear hrc hbc hgr
      go_upto_region 15 with fail
      rw [← hw9, ← hge]
      clear hw9 hge
      go_wp2_with fail
      go_loopg [12] 18 (fun gm iv wr => ∃ i : Nat, i ≤ 18 ∧ gm = 18 - i ∧ iv = .int .i64 i ∧ Below w9.heap.size w9 wr)
      case atStart => exact ⟨0, by omega, rfl, rfl, Below.refl _ _⟩
      case round =>
        obtain ⟨k, hk, rfl, rfl, hbw⟩ := hrel
        obtain ⟨wz, rfl⟩ : ∃ wq : World, wq = wr := ⟨_, rfl⟩
        have HBW := Lib.hid hbw
        by_cases hlt : k < 18
        · have hii : (k : Int) < 18 := by omega
          have hi0 : (0 : Int) ≤ (k : Int) := by omega
          have hrc := HRC.out.below hbw HRC.out.lt
          have her := HER.out.below hbw HER.out.lt
          obtain ⟨q0, q1, q2, q3, q4⟩ := recC_at k hlt
          have hE := recs_at hlt
          have hg := recs_small k hlt
          have e0 := her.cell k
          rw [show (#[.int .i64 23, .int .i64 8, .int .i64 3, .int .i64 23, .int .i64 23, .int .i64 0, .int .i64 3, .int .i64 3, .int .i64 0, .int .i64 3, .int .i64 3, .int .i64 0, .int .i64 3, .int .i64 3, .int .i64 0, .int .i64 3, .int .i64 3, .int .i64 3] : Array Value)[k]? = some (.int .i64 (errs.getD k 0)) by rw [← Array.getElem?_toList]; exact ints_get .i64 errs k hlt] at e0
          rw [← hE] at e0
          obtain ⟨r, hr⟩ : ∃ r, r = recs.getD k zeroR := ⟨_, rfl⟩
          rw [← hr] at q0 q1 q2 q3 q4 e0 hg
          obtain ⟨rk, rt, rg, rv, ri⟩ := r
          dsimp only at q0 q1 q2 q3 q4 hg
          obtain ⟨x, hx⟩ : ∃ x, x = recErr ⟨rk, rt, rg, rv, ri⟩ := ⟨_, rfl⟩
          have HX := Lib.hid hx.symm
          rw [← hx] at e0
          have s0 : wz.cell? ⟨gr, k * 5, none⟩ = some (.int .i64 rk) := (hrc.cell _).trans q0
          have s1 : wz.cell? ⟨gr, k * 5 + 1, none⟩ = some (.int .i64 rt) := (hrc.cell _).trans q1
          have s2 : wz.cell? ⟨gr, k * 5 + 2, none⟩ = some (.string rg) := (hrc.cell _).trans q2
          have s3 : wz.cell? ⟨gr, k * 5 + 3, none⟩ = some (.int .i64 rv) := (hrc.cell _).trans q3
          have s4 : wz.cell? ⟨gr, k * 5 + 4, none⟩ = some (.int .i64 ri) := (hrc.cell _).trans q4
          have sl := hrc.lt
          have el := her.lt
          have hg2 : rg.size ≤ 9223372036854775807 := by omega
          clear hr hx q0 q1 q2 q3 q4 hE hrc her hbw
          go_upto_region 18 with fail
          go_cut [105] (fun s105 wx => s105 = .bool false ∧ Below wz.heap.size wz wx)
          case first =>
            go_region_held3 (fun w' => w'.cell? ⟨gr, k * 5, none⟩ = some (.int .i64 rk) ∧ w'.cell? ⟨gr, k * 5 + 1, none⟩ = some (.int .i64 rt) ∧ w'.cell? ⟨gr, k * 5 + 2, none⟩ = some (.string rg) ∧ w'.cell? ⟨gr, k * 5 + 3, none⟩ = some (.int .i64 rv) ∧ w'.cell? ⟨gr, k * 5 + 4, none⟩ = some (.int .i64 ri) ∧ w'.cell? ⟨ge, k, none⟩ = some (.int .i64 x))
              (first
                | exact ⟨s0, s1, s2, s3, s4, e0⟩
                | exact ⟨(hk9.cell (p := ⟨gr, k * 5, none⟩) sl).trans s0, (hk9.cell (p := ⟨gr, k * 5 + 1, none⟩) sl).trans s1, (hk9.cell (p := ⟨gr, k * 5 + 2, none⟩) sl).trans s2, (hk9.cell (p := ⟨gr, k * 5 + 3, none⟩) sl).trans s3, (hk9.cell (p := ⟨gr, k * 5 + 4, none⟩) sl).trans s4, (hk9.cell (p := ⟨ge, k, none⟩) el).trans e0⟩)
              (first
                | (go_at_call 11; (with_reducible refine (check_is rk rt rg rv ri x _ hg2 HX.out).mono ?_); rintro e w' ⟨rfl, hb⟩; have hk9 : Below wz.heap.size wz w' := (Below.refl _ _).drew.trans hb)
                | fail)
            go_wp2_with fail
            go_meet
            exact ⟨by simp, hk9⟩
          case rest =>
          obtain ⟨rfl, hbx⟩ := hcut
          have HBX := Lib.hid (HBW.out.trans (hbx.mono HBW.out.size))
          clear hbx s0 s1 s2 s3 s4 e0
          go_wp2_with fail
          go_roundg (18 - (k + 1))
          case measure => omega
          case rel => exact ⟨k + 1, by omega, rfl, by go_num, HBX.out⟩
        · obtain rfl : k = 18 := by omega
          have hii : ¬ ((18 : Nat) : Int) < 18 := by omega
          have B10 := Lib.hid (B9.out.trans (hbw.mono B9.out.size))
          clear hbw
          go_wp2_with fail
          refine (known_any _).mono ?_
          rintro e w11 ⟨rfl, hb11⟩
          have B11 := Lib.hid (B10.out.trans (hb11.mono B10.out.size))
          clear hb11
          go_wp2_with fail
          go_ret
          exact ⟨rfl, B11.out⟩

theorem own : ownKnob Try.prog.godebug = none := by kernel_rfl

set_option maxRecDepth 100000 in
theorem lifted (os : Os) (started : os.Started) (H : Type) (enc : TypeId × Value → H) :
    ReturnsInHanded {} Try.checked os 8 .any (Rows.recordKnownSpec.pre6 enc Try.prog Try.f8 Rows.recordKnownRow.domain false) (Rows.recordKnownSpec.post enc Try.prog Try.f8 false true false false) := by
  refine law_lifted (C := Try.checked) (tb := 4) own started (by kernel_rfl) Try.func8
    (ChangeSpec.witness6 (enc := enc) (C := Try.checked) false ⟨#[], #[], []⟩ 8 (by kernel_rfl) (by kernel_rfl) (by kernel_rfl) (by kernel_rfl))
    rfl (by kernel_rfl) (by kernel_rfl) (by kernel_rfl) Try.underlying4 (fun ds h => ?_) ?_
  · rw [show Try.f8.params = #[] from Try.params8] at h
    match ds, h with
    | [], _ => rfl
  · intro W base args ds before _ hA _ _
    obtain ⟨rfl, rfl, rfl⟩ := trodAll_none (show DataW.TrodAll enc Try.prog W 0 (fun _ => true) true [] args.toList ds before from hA)
    exact walk W

theorem proved : Rows.RecordKnownSaid :=
  OpenClaim.holds_of_wide 8 Try.f8 rfl rfl rfl rfl rfl rfl rfl ⟨rfl, rfl, rfl, rfl, rfl⟩ rfl rfl rfl rfl rfl (by kernel_rfl) Try.func8 (by kernel_rfl)
    (of_decide_eq_true (by kernel_rfl)) (by unfold Func.isWrapper; rw [if_neg (of_decide_eq_false (by kernel_rfl))]; exact ⟨rfl, rfl⟩)
    (fun os started H enc _ => lifted os started H enc)
#print axioms proved
end RecordKnown
end Go.Proofs.Ytognidoohinipaa
