/-
  What is proved here: rows of numbers of one kind that lie in a block of the call's own, over any program. Conditions: none beyond each theorem's own.
-/
import Derived.Test.YtmmikolcipcldaaOwn
import Derived.Laws.MakeOwn
namespace Go.Proofs.Ytmmikolcipcldaa
open Go.RowKit Go.Deep Go.Joins Go.WideShapes

/-- the cell of a number of the kind k. -/
def IsIntK (k : IntKind) (u : Value) : Prop := ∃ n, u = .int k n
theorem ints_all (k : IntKind) (L : List Int) : ∀ u ∈ L.map (Value.int k), IsIntK k u := by
  intro u hu
  obtain ⟨n, _, e⟩ := List.mem_map.1 hu
  exact ⟨n, e.symm⟩
theorem ints_get (k : IntKind) (L : List Int) (i : Nat) (hi : i < L.length) : (L.map (Value.int k))[i]? = some (.int k (L.getD i 0)) := by
  simp [hi]
theorem ints_one (k : IntKind) (x : Int) : (∀ u ∈ [Value.int k x], u.oneCell' = true) ∧ ∀ u ∈ [Value.int k x], IsIntK k u := by
  refine ⟨by simp [Value.oneCell'], fun u hu => ?_⟩
  simp at hu
  exact ⟨_, hu⟩
theorem zero_intK (k : IntKind) : ∀ u ∈ (Value.int k 0).cells.toList, IsIntK k u := by
  intro u hu
  simp [Value.cells] at hu
  exact ⟨_, hu⟩
theorem take_snoc_int (L : List Int) (i : Nat) (hi : i < L.length) : L.take (i + 1) = L.take i ++ [L.getD i 0] := by
  rw [List.take_succ_eq_append_getElem hi, List.getD_eq_getElem?_getD, List.getElem?_eq_getElem hi]; rfl
theorem ext_getD_int {L M : List Int} (hl : L.length = M.length) (h : ∀ j, j < L.length → L.getD j 0 = M.getD j 0) : L = M := by
  apply List.ext_getElem hl
  intro i h1 h2
  have := h i h1
  simpa [h1, h2] using this

/-- a row of numbers in a block, all of whose cells are numbers of the kind: L, then room, m in all. -/
def IRow (k : IntKind) (E : TypeId) (w : World) (g m : Nat) (L : List Int) : Prop :=
  ∃ cs, Blk w g E cs ∧ cs.size = m ∧ L.length ≤ m ∧ cs.toList.take L.length = L.map (Value.int k) ∧ ∀ u ∈ cs.toList, IsIntK k u
section
variable {k : IntKind} {E : TypeId} {w w' : World} {g m : Nat} {L : List Int}
theorem IRow.lt (h : IRow k E w g m L) : g < w.heap.size := by obtain ⟨cs, hb, _⟩ := h; exact hb.lt
theorem IRow.le (h : IRow k E w g m L) : L.length ≤ m := by obtain ⟨cs, _, _, hl, _⟩ := h; exact hl
theorem IRow.frozen (h : IRow k E w g m L) (o : Nat) : w.frozen? ⟨g, o, none⟩ = false := by obtain ⟨cs, hb, _⟩ := h; exact hb.frozen o
theorem IRow.of_block (h : IRow k E w g m L) (e : w'.heap[g]? = w.heap[g]?) : IRow k E w' g m L := by
  obtain ⟨cs, hb, r⟩ := h
  exact ⟨cs, e.trans hb, r⟩
theorem IRow.below {B : Nat} (h : IRow k E w g m L) (hb : Below B w w') (hg : g < B) : IRow k E w' g m L := h.of_block (hb.block g hg)
theorem IRow.drew (h : IRow k E w g m L) : IRow k E w.drew g m L := h
theorem IRow.alloc (h : IRow k E w g m L) (o : Obj) : IRow k E (w.alloc o) g m L := h.of_block (Below.heap_alloc w o g h.lt)
theorem IRow.cell (h : IRow k E w g m L) {i : Nat} (hi : i < L.length) : w.cell? ⟨g, i, none⟩ = some (.int k (L.getD i 0)) := by
  obtain ⟨cs, hb, hs, hl, ht, _⟩ := h
  have c0 := ints_get k L i hi
  rw [← ht] at c0
  simp only [List.getElem?_take] at c0
  rw [if_pos (by omega), Array.getElem?_toList] at c0
  exact (hb.cell _).trans c0
theorem IRow.any (h : IRow k E w g m L) {j : Nat} (hj : j < m) : ∃ n, w.cell? ⟨g, j, none⟩ = some (.int k n) := by
  obtain ⟨cs, hb, hs, hl, ht, hu⟩ := h
  obtain ⟨n, e⟩ := hu cs[j] (by simp)
  exact ⟨n, by rw [hb.cell, Array.getElem?_eq_getElem (by omega), e]⟩
theorem IRow.at_ (h : IRow k E w g m L) : IntsAt k w (some ⟨g, 0, none⟩) L := by
  intro _
  refine ⟨g, 0, rfl, h.lt, fun i hi => ?_⟩
  have := h.cell (i := i) hi
  simpa using this
/-- the row without its beginning's meaning. -/
theorem IRow.bare (h : IRow k E w g m L) : IRow k E w g m [] := by
  obtain ⟨cs, hb, hs, hl, ht, hu⟩ := h
  exact ⟨cs, hb, hs, by simp, by simp, hu⟩
theorem IRow.begin_ (h : IRow k E w g m L) (n : Nat) : IRow k E w g m (L.take n) := by
  obtain ⟨cs, hb, hs, hl, ht, hu⟩ := h
  refine ⟨cs, hb, hs, by rw [List.length_take]; omega, ?_, hu⟩
  rw [List.length_take, List.map_take, ← ht, List.take_take]
theorem IRow.set_ (h : IRow k E w g m []) (j : Nat) (n : Int) : IRow k E (w.setCell ⟨g, j, none⟩ (.int k n)) g m [] := by
  obtain ⟨cs, hb, hs, hl, ht, hu⟩ := h
  refine ⟨_, hb.set_ j _, by simpa using hs, by simp, by simp, fun u hm => ?_⟩
  rw [Array.toList_setIfInBounds] at hm
  rcases List.mem_or_eq_of_mem_set hm with hm | hm
  · exact hu u hm
  · exact ⟨n, hm⟩
theorem IRow.put (h : IRow k E w g m L) (j : Nat) (n : Int) : IRow k E (w.setCell ⟨g, j, none⟩ (.int k n)) g m (L.set j n) := by
  obtain ⟨cs, hb, hs, hl, ht, hu⟩ := h
  refine ⟨_, hb.set_ j _, by simpa using hs, by simpa using hl, ?_, fun u hm => ?_⟩
  · rw [Array.toList_setIfInBounds, List.length_set, List.map_set, ← ht, List.take_set]
  · rw [Array.toList_setIfInBounds] at hm
    rcases List.mem_or_eq_of_mem_set hm with hm | hm
    · exact hu u hm
    · exact ⟨n, hm⟩
theorem IRow.push (h : IRow k E w g m L) (hl : L.length < m) (x : Int) : IRow k E (w.setCell ⟨g, L.length, none⟩ (.int k x)) g m (L ++ [x]) := by
  obtain ⟨cs, hb, hs, _, ht, hu⟩ := h
  refine ⟨_, hb.set_ _ _, by simpa using hs, by simp; omega, ?_, fun u hm => ?_⟩
  · have hcl : L.length < cs.toList.length := by simpa [hs] using hl
    rw [Array.toList_setIfInBounds, List.length_append, List.length_singleton, List.take_set, List.take_succ_eq_append_getElem hcl, ht, List.set_append]
    simp
  · rw [Array.toList_setIfInBounds] at hm
    rcases List.mem_or_eq_of_mem_set hm with hm | hm
    · exact hu u hm
    · exact ⟨_, hm⟩
end
theorem IRow.made (k : IntKind) (E : TypeId) (w : World) (n : Nat) : IRow k E (w.alloc (.cells (madeCells #[.int k 0] n) E)) w.heap.size n [] := by
  refine ⟨_, Blk.new _ _ _, size_madeCells _ _, by simp, by simp, fun u hu => ?_⟩
  simp only [madeCells, Array.toList_map, List.mem_map] at hu
  obtain ⟨j, _, e⟩ := hu
  have hsz : (#[Value.int k 0] : Array Value).size = 1 := rfl
  rw [hsz, Nat.mod_one] at e
  exact ⟨0, e.symm⟩
theorem IRow.zeros (k : IntKind) (E : TypeId) (w : World) (n : Nat) : IRow k E (w.alloc (.cells (madeCells #[.int k 0] n) E)) w.heap.size n (List.replicate n 0) := by
  refine ⟨_, Blk.new _ _ _, size_madeCells _ _, by simp, ?_, ?_⟩
  · apply List.ext_getElem?
    intro i
    simp only [List.length_replicate, madeCells, Array.toList_map, List.map_replicate, List.getElem?_take, List.getElem?_map, List.getElem?_replicate, Array.toList_range]
    by_cases hi : i < n
    · simp [hi, Nat.mod_one]
    · simp [hi]
  · obtain ⟨cs, hb, _, _, _, hu⟩ := IRow.made k E w n
    have := (Blk.new w E (madeCells #[.int k 0] n)).symm.trans hb
    injection this with e
    injection e with e
    subst e
    exact hu

theorem irow_of_own {k : IntKind} {E : TypeId} {w : World} {base : Nat} {v : Value} {L : List Int} (h : OwnG (IsIntK k) w base E 1 v L.length (L.map (Value.int k))) :
    (v = .slice none 0 0 ∧ L = []) ∨ ∃ g cap, v = .slice (some ⟨g, 0, none⟩) L.length cap ∧ base ≤ g ∧ cap ≤ maxLen ∧ IRow k E w g cap L := by
  rcases h.1.2 with ⟨hv, h0⟩ | ⟨g, cap, cur, hv, hb, hh, hn, hm, hs, ht⟩
  · exact .inl ⟨hv, List.eq_nil_of_length_eq_zero h0⟩
  · exact .inr ⟨g, cap, hv, hb, hm, cur, hh, by simpa using hs, hn, by simpa using ht, h.2 g cap cur hv hh⟩

theorem run_make_rowN {P : Program} (t e : TypeId) (i : TypeInfo) (z : Value) (ht : P.underlying t = some (.slice e)) (hi : P.info? e = some i) (hz : i.zero = some z)
    (kl kc : IntKind) (n c : Nat) (hnc : n ≤ c) (hbytes : i.bytes * c ≤ 281474976710656) (h63 : c ≤ 9223372036854775807) (w : World) :
    (Instr.makeSlice t (.int kl (n : Int)) (.int kc (c : Int))).run P w = .ok (.slice (some ⟨w.heap.size, 0, none⟩) n c) (w.alloc (.cells (madeCells z.cells (c * i.size)) e)) := by
  have hb : (i.bytes : Int) * (c : Int) ≤ 281474976710656 := by
    have h : ((i.bytes * c : Nat) : Int) ≤ 281474976710656 := by omega
    rwa [Int.natCast_mul] at h
  have hr := run_make (P := P) w t e i z ht hi hz kl kc n c (by omega) (by omega) hb (by omega)
  simp only [Int.toNat_natCast] at hr
  exact hr

theorem only_refl (w : World) (row : Option Nat) : w.grownBy w row := ⟨rfl, rfl, rfl, Nat.le_refl _, fun _ _ _ => rfl⟩
theorem only_drew {a w : World} {row : Option Nat} (h : a.grownBy w row) : a.grownBy w.drew row := ⟨h.os, h.tape, h.output, h.size, h.block⟩
theorem only_drewN {a w : World} {row : Option Nat} (h : a.grownBy w row) (n : Nat) : a.grownBy (w.drewN n) row := ⟨h.os, h.tape, h.output, h.size, h.block⟩
theorem only_set {a w : World} {g : Nat} (h : a.grownBy w (some g)) (o : Nat) (u : Value) : a.grownBy (w.setCell ⟨g, o, none⟩ u) (some g) :=
  ⟨h.os, h.tape, h.output, by simpa [World.setCell] using h.size, fun i hi hne => (Below.heap_setCell w ⟨g, o, none⟩ u i (fun e => hne (by rw [e]))).trans (h.block i hi hne)⟩
theorem only_trans {a b c : World} {row : Option Nat} (h : a.grownBy b row) (k : b.grownBy c row) : a.grownBy c row :=
  ⟨k.os.trans h.os, k.tape.trans h.tape, k.output.trans h.output, Nat.le_trans h.size k.size, fun i hi hne => (k.block i (Nat.lt_of_lt_of_le hi h.size) hne).trans (h.block i hi hne)⟩
theorem grown_below {w w' : World} (h : Below w.heap.size w w') (row : Option Nat) : w.grownBy w' row := ⟨h.os, h.tape, h.output, h.size, fun k hk _ => h.block k hk⟩
theorem below_grown {w w' : World} {base : Nat} {row : Option Nat} (h : w.grownBy w' row) (hr : ∀ b, row = some b → base ≤ b) (hb : base ≤ w.heap.size) : Below base w w' :=
  ⟨h.os, h.tape, h.output, h.size, fun k hk => h.block k (by omega) (fun e => by have := hr k e.symm; omega)⟩
theorem IRow.grown {k : IntKind} {E : TypeId} {w w' : World} {g m : Nat} {L : List Int} {row : Option Nat} (h : IRow k E w g m L) (hg : w.grownBy w' row) (hne : some g ≠ row) : IRow k E w' g m L :=
  h.of_block (hg.block g h.lt hne)
theorem IntsAt.drew {k : IntKind} {w : World} {A : Option Addr} {L : List Int} (h : IntsAt k w A L) : IntsAt k w.drew A L := h
theorem IntsAt.nil_ (k : IntKind) (w : World) (A : Option Addr) : IntsAt k w A [] := fun h => absurd h (by simp)
theorem IntsAt.alloc {k : IntKind} {w : World} {A : Option Addr} {L : List Int} (h : IntsAt k w A L) (o : Obj) : IntsAt k (w.alloc o) A L :=
  h.below ((Below.refl w.heap.size w).alloc (Nat.le_refl _) o) (Nat.le_refl _)

/-- a list value that reads as L. -/
def Reads (k : IntKind) (w : World) (v : Value) (L : List Int) : Prop := ∃ A cap, v = .slice A L.length cap ∧ IntsAt k w A L
/-- a list value, nil or in a block of numbers, of length n. -/
def Row (k : IntKind) (E : TypeId) (w : World) (v : Value) (n : Nat) : Prop :=
  (v = .slice none 0 0 ∧ n = 0) ∨ ∃ g cap, v = .slice (some ⟨g, 0, none⟩) n cap ∧ n ≤ cap ∧ cap ≤ 9223372036854775807 ∧ IRow k E w g cap []
section
variable {k : IntKind} {E : TypeId} {w w' : World} {v : Value} {n : Nat} {L : List Int}
theorem Reads.grown {row : Option Nat} (h : Reads k w v L) (hg : w.grownBy w' row) (hne : ∀ b, v.ownBlock = some b → some b ≠ row) : Reads k w' v L := by
  obtain ⟨A, cap, rfl, hA⟩ := h
  refine ⟨A, cap, rfl, fun hp => ?_⟩
  obtain ⟨b, off, rfl, hlt, hc⟩ := hA hp
  have hb := hg.block b hlt (hne b rfl)
  exact ⟨b, off, rfl, Nat.lt_of_lt_of_le hlt hg.size, fun i hi => (World.cell?_of_block (a := ⟨b, off + i, none⟩) hb).trans (hc i hi)⟩
theorem Row.grown {row : Option Nat} (h : Row k E w v n) (hg : w.grownBy w' row) (hne : ∀ b, v.ownBlock = some b → some b ≠ row) : Row k E w' v n := by
  rcases h with h | ⟨g, cap, rfl, h1, h2, hr⟩
  · exact .inl h
  · exact .inr ⟨g, cap, rfl, h1, h2, hr.of_block (hg.block g hr.lt (hne g rfl))⟩
theorem Row.lt (h : Row k E w v n) {b : Nat} (hb : v.ownBlock = some b) : b < w.heap.size := by
  rcases h with ⟨rfl, _⟩ | ⟨g, cap, rfl, _, _, hr⟩
  · cases hb
  · cases hb; exact hr.lt
theorem Row.below (h : Row k E w v n) (hb : Below w.heap.size w w') : Row k E w' v n := h.grown (grown_below hb none) (fun _ _ e => by cases e)
theorem Reads.below (h : Reads k w v L) (hb : Below w.heap.size w w') : Reads k w' v L := h.grown (grown_below hb none) (fun _ _ e => by cases e)
theorem Row.reads (h : Row k E w v n) : ∃ L : List Int, L.length = n ∧ Reads k w v L := by
  rcases h with ⟨rfl, rfl⟩ | ⟨g, cap, rfl, h1, _, hr⟩
  · exact ⟨[], rfl, none, 0, rfl, fun h => absurd h (by simp)⟩
  · have hex : ∀ i, i < n → ∃ p : Int, w.cell? ⟨g, i, none⟩ = some (.int k p) := fun i hi => hr.any (j := i) (by omega)
    obtain ⟨S, hS⟩ := choose_lt hex
    refine ⟨(List.range n).map S, by simp, some ⟨g, 0, none⟩, cap, by simp, fun _ => ⟨g, 0, rfl, hr.lt, fun i hi => ?_⟩⟩
    simp only [List.length_map, List.length_range] at hi
    have e : ((List.range n).map S).getD i 0 = S i := by simp [hi]
    rw [e]
    simpa using hS i hi
theorem reads_of_own {base : Nat} (h : OwnG (IsIntK k) w base E 1 v L.length (L.map (Value.int k))) : Reads k w v L := by
  rcases irow_of_own h with ⟨rfl, rfl⟩ | ⟨g, c, rfl, _, _, hr⟩
  · exact ⟨none, 0, rfl, fun h => absurd h (by simp)⟩
  · exact ⟨_, _, rfl, hr.at_⟩
theorem row_of_own {base : Nat} (h : OwnG (IsIntK k) w base E 1 v L.length (L.map (Value.int k))) : Row k E w v L.length := by
  rcases irow_of_own h with ⟨rfl, rfl⟩ | ⟨g, c, rfl, _, hm, hr⟩
  · exact .inl ⟨rfl, rfl⟩
  · exact .inr ⟨g, c, rfl, hr.le, by unfold maxLen at hm; omega, hr.bare⟩
theorem base_of_own {base : Nat} (h : OwnG (IsIntK k) w base E 1 v L.length (L.map (Value.int k))) {b : Nat} (hb : v.ownBlock = some b) : base ≤ b := by
  rcases irow_of_own h with ⟨rfl, rfl⟩ | ⟨g, c, rfl, hg, _, _⟩
  · cases hb
  · cases hb; exact hg
end
end Go.Proofs.Ytmmikolcipcldaa
