/-
  What is proved here: what a record is that is read from bytes, in plain lists (chapter 11). Conditions: bytes are bytes.
-/
import Derived.Test.YtognidoohinipaaRecOpen
import Derived.Laws.BitsAllLaws
import Derived.Lib.EndianBits
import Derived.Laws.BytesArg
namespace Go.Proofs.Ytognidoohinipaa
open Go.RowKit Go.Deep Go.Joins Go.WideShapes

def U8 (x : Int) : Prop := 0 ≤ x ∧ x ≤ 255
/-- bytes as a number, the first one highest. -/
def numB (L : List Int) : Int := L.foldl (fun a b => a * 256 + b) 0
theorem numB_snoc (L : List Int) (b : Int) : numB (L ++ [b]) = numB L * 256 + b := by simp [numB, List.foldl_append]
theorem getD_u8 {L : List Int} (h : ∀ x ∈ L, U8 x) (i : Nat) : U8 (L.getD i 0) := by
  by_cases hi : i < L.length
  · exact h _ (by rw [List.getD_eq_getElem?_getD, List.getElem?_eq_getElem hi]; simp)
  · rw [List.getD_eq_getElem?_getD, List.getElem?_eq_none (by omega)]; exact ⟨by decide, by decide⟩
theorem numB_in {M : List Int} (h : ∀ x ∈ M, U8 x) : ∀ j : Nat, j ≤ M.length → 0 ≤ numB (M.take j) ∧ numB (M.take j) < 256 ^ j
  | 0, _ => by simp [numB]
  | j + 1, hj => by
    have ih := numB_in h j (by omega)
    rw [take_snoc_int _ _ (by omega), numB_snoc]
    have hb := getD_u8 h j
    unfold U8 at hb
    have e : (256 : Int) ^ (j + 1) = 256 ^ j * 256 := Int.pow_succ ..
    rw [e]
    omega
theorem pow_small {j : Nat} (h : j ≤ 7) : (256 : Int) ^ j ≤ 72057594037927936 := by
  have : j = 0 ∨ j = 1 ∨ j = 2 ∨ j = 3 ∨ j = 4 ∨ j = 5 ∨ j = 6 ∨ j = 7 := by omega
  rcases this with rfl | rfl | rfl | rfl | rfl | rfl | rfl | rfl <;> decide
theorem numB_small {M : List Int} (h : ∀ x ∈ M, U8 x) {j : Nat} (hj : j ≤ M.length) (h7 : j ≤ 7) : 0 ≤ numB (M.take j) ∧ numB (M.take j) ≤ 72057594037927935 := by
  have h1 := numB_in h j hj
  have h2 := pow_small h7
  omega
theorem numB_eight {M : List Int} (h : ∀ x ∈ M, U8 x) (hj : 8 ≤ M.length) : 0 ≤ numB (M.take 8) ∧ numB (M.take 8) ≤ 18446744073709551615 := by
  have h1 := numB_in h 8 hj
  have e : (256 : Int) ^ 8 = 18446744073709551616 := by decide
  rw [e] at h1
  omega
/-- the number that stands in the first eight bytes. -/
def val8 (M : List Int) : Int := IntKind.i64.wrap (numB (M.take 8))
theorem or_u64 {x y : Int} (h0 : 0 ≤ x) (h1 : x ≤ 72057594037927935) (h2 : 0 ≤ y) (h3 : y ≤ 255) : bits .or .u64 (x * 256) y = x * 256 + y :=
  bits_join .u64 64 (by decide) (fun n a b => by rw [wrap_u64]; exact Int.emod_eq_of_lt (by omega) (by omega)) 8 (x * 256) y (by omega) (by omega) (by omega) h2 (by omega) (by omega)

/-- what is left, and whether bytes lacked. -/
def numL (M : List Int) (s : Bool) : Int × List Int × Bool := if M.length < 8 then (0, M, true) else (val8 M, M.drop 8, s)
def zeroR : Rec := ⟨0, 0, ⟨#[]⟩, 0, 0⟩
def finL (M : List Int) (s : Bool) (r : Rec) : Rec × Int := if s = true then (zeroR, 1) else if 0 < M.length then (zeroR, 2) else if recErr r = 0 then (r, 0) else (zeroR, recErr r)
def mkG (L : List Int) : ByteArray := strOfNums L
def noG : ByteArray := ⟨#[]⟩
/-- a tag's bytes, and what stands behind. -/
def tagL (M : List Int) : Bool := decide (M.length = 0 ∨ (M.length : Int) < 1 + M.getD 0 0)
def getS (L : List Int) : Rec × Int :=
  if L.length = 0 then (zeroR, 1) else
  let k := L.getD 0 0
  if ¬ Within k 1 6 then (zeroR, 28) else
  let a := numL (L.drop 1) false
  if k = 1 ∨ k = 2 then
    if tagL a.2.1 = true then (zeroR, 1) else
    let n := (a.2.1.getD 0 0).toNat
    let b := numL (a.2.1.drop (1 + n)) a.2.2
    finL b.2.1 b.2.2 ⟨k, a.1, mkG ((a.2.1.drop 1).take n), b.1, 0⟩
  else if k = 5 then
    let b := numL a.2.1 a.2.2
    finL b.2.1 b.2.2 ⟨k, a.1, noG, 0, b.1⟩
  else if k = 6 then
    let b := numL a.2.1 a.2.2
    let c := numL b.2.1 b.2.2
    finL c.2.1 c.2.2 ⟨k, a.1, noG, c.1, b.1⟩
  else
    let b := numL a.2.1 a.2.2
    finL b.2.1 b.2.2 ⟨k, a.1, noG, b.1, 0⟩

/-- all blocks but two stay. -/
structure Only2 (w w' : World) (g1 g2 : Nat) : Prop where
  os : w'.os = w.os
  tape : w'.tape = w.tape
  output : w'.output = w.output
  size : w'.heap.size = w.heap.size
  block : ∀ g, g ≠ g1 → g ≠ g2 → w'.heap[g]? = w.heap[g]?
theorem Only2.set1 (w : World) (g1 g2 : Nat) (o : Nat) (u : Value) : Only2 w (w.setCell ⟨g1, o, none⟩ u) g1 g2 :=
  ⟨rfl, rfl, rfl, by simp [World.setCell], fun g h _ => Below.heap_setCell w ⟨g1, o, none⟩ u g h⟩
theorem Only2.set2 (w : World) (g1 g2 : Nat) (o : Nat) (u : Value) : Only2 w (w.setCell ⟨g2, o, none⟩ u) g1 g2 :=
  ⟨rfl, rfl, rfl, by simp [World.setCell], fun g _ h => Below.heap_setCell w ⟨g2, o, none⟩ u g h⟩
theorem Only2.below {a w w' : World} {B g1 g2 : Nat} (h : Only2 w w' g1 g2) (hb : Below B a w) (h1 : B ≤ g1) (h2 : B ≤ g2) : Below B a w' :=
  ⟨h.os.trans hb.os, h.tape.trans hb.tape, h.output.trans hb.output, by rw [h.size]; exact hb.size, fun g hg => (h.block g (by omega) (by omega)).trans (hb.block g hg)⟩
theorem Only2.blk {w w' : World} {g g1 g2 : Nat} {T : TypeId} {cs : Array Value} (h : Only2 w w' g1 g2) (hb : Blk w g T cs) (h1 : g ≠ g1) (h2 : g ≠ g2) : Blk w' g T cs := (h.block g h1 h2).trans hb
/-- a cell that holds bytes still to be read; they lie below B. -/
def Rest (w : World) (B br : Nat) (M : List Int) : Prop :=
  ∃ b off cap, Blk w br 24 #[.slice (some ⟨b, off, none⟩) M.length cap] ∧ M.length ≤ cap ∧ (0 < M.length → b < B ∧ ∀ i, i < M.length → w.cell? ⟨b, off + i, none⟩ = some (.int .u8 (M.getD i 0)))
theorem Rest.only {w w' : World} {B br bs g1 : Nat} {M : List Int} (h : Rest w B br M) (ho : Only2 w w' g1 bs) (h1 : B ≤ g1) (h2 : B ≤ bs) (h3 : br ≠ g1) (h4 : br ≠ bs) : Rest w' B br M := by
  obtain ⟨b, off, cap, hb, hl, hc⟩ := h
  refine ⟨b, off, cap, ho.blk hb h3 h4, hl, fun hp => ?_⟩
  obtain ⟨hlt, hcc⟩ := hc hp
  exact ⟨hlt, fun i hi => (World.cell?_of_block (a := ⟨b, off + i, none⟩) (ho.block b (by omega) (by omega))).trans (hcc i hi)⟩
theorem Rest.far {w : World} {B br g : Nat} {M : List Int} (h : Rest w B br M) (h1 : B ≤ g) (h2 : br ≠ g) (o : Nat) (u : Value) : Rest (w.setCell ⟨g, o, none⟩ u) B br M := by
  obtain ⟨b, off, cap, hb, hl, hc⟩ := h
  refine ⟨b, off, cap, hb.far h2 u, hl, fun hp => ?_⟩
  obtain ⟨hlt, hcc⟩ := hc hp
  exact ⟨hlt, fun i hi => (World.cell?_of_block (a := ⟨b, off + i, none⟩) (Below.heap_setCell w ⟨g, o, none⟩ u b (by show b ≠ g; omega))).trans (hcc i hi)⟩
theorem Rest.below {w w' : World} {B br : Nat} {M : List Int} (h : Rest w B br M) (ho : Below w.heap.size w w') (hB : B ≤ br) : Rest w' B br M := by
  obtain ⟨b, off, cap, hb, hl, hc⟩ := h
  have hlt := hb.lt
  refine ⟨b, off, cap, hb.below ho hlt, hl, fun hp => ?_⟩
  obtain ⟨hlt2, hcc⟩ := hc hp
  exact ⟨hlt2, fun i hi => (ho.cell (p := ⟨b, off + i, none⟩) (by show b < _; omega)).trans (hcc i hi)⟩
def NumBack (w : World) (B br bs : Nat) (M : List Int) (s : Bool) (e : Ending) (w' : World) : Prop :=
  e = .returned (.int .i64 (numL M s).1) ∧ Rest w' B br (numL M s).2.1 ∧ Blk w' bs 4 #[.bool (numL M s).2.2] ∧ Only2 w w' br bs
end Go.Proofs.Ytognidoohinipaa
