/-
  What is proved here: how a tree's pages lie in memory (chapter 15). Conditions: none.
-/
import Derived.Test.YtmmikolcipcldaaTreeKey
import Derived.Test.YtmmikolcipcldaaIntRow
namespace Go.Proofs.Ytmmikolcipcldaa
open Go.RowKit Go.Deep

def k0 : Ky := ⟨0, 0⟩
instance : Inhabited Ky := ⟨k0⟩
/-- a page: keys, values, kids; the blocks of its lists and how much these could hold. -/
structure Pg where
  ks : List Ky
  vs : List Int
  kids : List Nat
  gk : Nat
  gv : Nat
  gc : Nat
  ck : Nat
  cv : Nat
  cc : Nat
/-- a list's value: nil, or at the head of a block. -/
def sl (g n c : Nat) : Value := if c = 0 then .slice none 0 0 else .slice (some ⟨g, 0, none⟩) n c
def kcells (ks : List Ky) : List Value := ks.flatMap (fun k => k.cells.toList)
def vcells (vs : List Int) : List Value := vs.map (Value.int .i64)
def pcells (ps : List Nat) : List Value := ps.map (fun p => Value.pointer (some ⟨p, 0, none⟩))
/-- a row at the head of a block. -/
def RowAt (w : World) (g : Nat) (t : TypeId) (size n c : Nat) (xs : List Value) : Prop :=
  n ≤ c ∧ xs.length = n * size ∧ (0 < c → ∃ cur : Array Value, w.heap[g]? = some (.cells cur t (0, 0)) ∧ c * size ≤ cur.size ∧ cur.toList.take (n * size) = xs)
structure PageAt (w : World) (p : Nat) (P : Pg) : Prop where
  blk : Blk w p 82 #[sl P.gk P.ks.length P.ck, sl P.gv P.vs.length P.cv, sl P.gc P.kids.length P.cc]
  keys : RowAt w P.gk 24 2 P.ks.length P.ck (kcells P.ks)
  vals : RowAt w P.gv 3 1 P.vs.length P.cv (vcells P.vs)
  kids : RowAt w P.gc 69 1 P.kids.length P.cc (pcells P.kids)

theorem kcells_len (ks : List Ky) : (kcells ks).length = ks.length * 2 := by
  induction ks with
  | nil => rfl
  | cons k ks ih => show (k.cells.toList ++ kcells ks).length = _; rw [List.length_append, ih]; show 2 + _ = _; rw [List.length_cons]; omega
theorem kcells_at : ∀ (ks : List Ky) (i : Nat), i < ks.length → (kcells ks)[i * 2]? = some (.int .i64 (ks.getD i k0).t) ∧ (kcells ks)[i * 2 + 1]? = some (.int .i64 (ks.getD i k0).s)
  | [], i, h => absurd h (by simp)
  | k :: ks, 0, _ => ⟨rfl, rfl⟩
  | k :: ks, i + 1, h => by
    have := kcells_at ks i (by simpa using h)
    exact ⟨by rw [show (i + 1) * 2 = i * 2 + 2 by omega]; exact this.1, by rw [show (i + 1) * 2 + 1 = (i * 2 + 1) + 2 by omega]; exact this.2⟩
theorem vcells_at (vs : List Int) (i : Nat) (h : i < vs.length) : (vcells vs)[i]? = some (.int .i64 (vs.getD i 0)) := by simp [vcells, h]
theorem pcells_at (ps : List Nat) (i : Nat) (h : i < ps.length) : (pcells ps)[i]? = some (.pointer (some ⟨ps.getD i 0, 0, none⟩)) := by simp [pcells, h]

section
variable {w w' : World} {g : Nat} {t : TypeId} {size n c : Nat} {xs : List Value}
theorem RowAt.cell (h : RowAt w g t size n c xs) (hc : 0 < c) {j : Nat} {u : Value} (hu : xs[j]? = some u) : w.cell? ⟨g, j, none⟩ = some u := by
  obtain ⟨cur, hg, _, ht⟩ := h.2.2 hc
  rw [cell_of_row w g j cur t (0, 0) hg]
  rw [← ht, List.getElem?_take] at hu
  split at hu
  · rw [← hu]; simp
  · cases hu
theorem RowAt.lt (h : RowAt w g t size n c xs) (hc : 0 < c) : g < w.heap.size := by
  obtain ⟨cur, hg, _, _⟩ := h.2.2 hc
  exact (Array.getElem?_eq_some_iff.1 hg).1
theorem RowAt.below {B : Nat} (h : RowAt w g t size n c xs) (hb : Below B w w') (hg : 0 < c → g < B) : RowAt w' g t size n c xs :=
  ⟨h.1, h.2.1, fun hc => by obtain ⟨cur, h1, h2, h3⟩ := h.2.2 hc; exact ⟨cur, (hb.block g (hg hc)).trans h1, h2, h3⟩⟩
theorem RowAt.on (h : RowAt w g t size n c xs) (hb : Below w.heap.size w w') : RowAt w' g t size n c xs := h.below hb h.lt
theorem RowAt.pos (h : RowAt w g t size n c xs) (hn : 0 < n) : 0 < c := by have := h.1; omega
end
theorem PageAt.on {w w' : World} {p : Nat} {P : Pg} (h : PageAt w p P) (hb : Below w.heap.size w w') : PageAt w' p P :=
  ⟨h.blk.below hb h.blk.lt, h.keys.on hb, h.vals.on hb, h.kids.on hb⟩
theorem PageAt.drewN {w : World} {p : Nat} {P : Pg} (h : PageAt w p P) (n : Nat) : PageAt (w.drewN n) p P :=
  ⟨h.blk, h.keys, h.vals, h.kids⟩
/-- a list's value, as the walk wants it. -/
theorem sl_form (g n c : Nat) (h : n ≤ c) : ∃ A, sl g n c = .slice A n c ∧ (0 < c → A = some ⟨g, 0, none⟩) ∧ (c = 0 → A = none) := by
  unfold sl
  by_cases e : c = 0
  · subst e
    obtain rfl : n = 0 := by omega
    exact ⟨none, rfl, fun h => absurd h (by omega), fun _ => rfl⟩
  · rw [if_neg e]
    exact ⟨_, rfl, fun _ => rfl, fun h => absurd h e⟩
theorem sl_pos (g n c : Nat) (h : 0 < c) : sl g n c = .slice (some ⟨g, 0, none⟩) n c := by unfold sl; rw [if_neg (by omega)]
theorem PageAt.key {w : World} {p : Nat} {P : Pg} (h : PageAt w p P) {i : Nat} (hi : i < P.ks.length) :
    w.cell? ⟨P.gk, i * 2, none⟩ = some (.int .i64 (P.ks.getD i k0).t) ∧ w.cell? ⟨P.gk, i * 2 + 1, none⟩ = some (.int .i64 (P.ks.getD i k0).s) :=
  ⟨h.keys.cell (h.keys.pos (by omega)) (kcells_at _ i hi).1, h.keys.cell (h.keys.pos (by omega)) (kcells_at _ i hi).2⟩
theorem PageAt.val {w : World} {p : Nat} {P : Pg} (h : PageAt w p P) {i : Nat} (hi : i < P.vs.length) : w.cell? ⟨P.gv, i, none⟩ = some (.int .i64 (P.vs.getD i 0)) :=
  h.vals.cell (h.vals.pos (by omega)) (vcells_at _ i hi)
theorem PageAt.kid {w : World} {p : Nat} {P : Pg} (h : PageAt w p P) {i : Nat} (hi : i < P.kids.length) : w.cell? ⟨P.gc, i, none⟩ = some (.pointer (some ⟨P.kids.getD i 0, 0, none⟩)) :=
  h.kids.cell (h.kids.pos (by omega)) (pcells_at _ i hi)

/-- how many keys, from the first on, are below a key. -/
def place (ks : List Ky) (k : Ky) : Nat := (ks.takeWhile (bel · k)).length
def hit (ks : List Ky) (k : Ky) : Bool := decide (place ks k < ks.length ∧ ks.getD (place ks k) k0 = k)
theorem place_le (ks : List Ky) (k : Ky) : place ks k ≤ ks.length := by
  unfold place
  exact (List.takeWhile_sublist _).length_le
theorem place_eq {ks : List Ky} {k : Ky} {i : Nat} (hi : i ≤ ks.length) (h1 : ∀ j, j < i → bel (ks.getD j k0) k = true) (h2 : i < ks.length → bel (ks.getD i k0) k = false) : place ks k = i := by
  induction ks generalizing i with
  | nil => simp at hi; subst hi; rfl
  | cons x ks ih =>
    cases i with
    | zero =>
      have := h2 (by simp)
      unfold place
      rw [List.takeWhile_cons_of_neg (by simpa using this)]
      rfl
    | succ i =>
      have h0 := h1 0 (by omega)
      unfold place
      rw [List.takeWhile_cons_of_pos (by simpa using h0), List.length_cons]
      congr 1
      exact ih (by simpa using hi) (fun j hj => by simpa using h1 (j + 1) (by omega)) (fun hlt => by simpa using h2 (by simpa using hlt))
theorem place_below : ∀ {ks : List Ky} {k : Ky} {j : Nat}, j < place ks k → bel (ks.getD j k0) k = true
  | [], k, j, h => absurd h (by simp [place])
  | x :: ks, k, j, h => by
    unfold place at h
    cases hx : bel x k with
    | false => rw [List.takeWhile_cons_of_neg (by simpa using hx)] at h; simp at h
    | true =>
      rw [List.takeWhile_cons_of_pos (by simpa using hx), List.length_cons] at h
      cases j with
      | zero => exact hx
      | succ j => exact place_below (ks := ks) (by unfold place; omega)
theorem place_not : ∀ {ks : List Ky} {k : Ky}, place ks k < ks.length → bel (ks.getD (place ks k) k0) k = false
  | [], k, h => absurd h (by simp)
  | x :: ks, k, h => by
    cases hx : bel x k with
    | false =>
      have : place (x :: ks) k = 0 := by unfold place; rw [List.takeWhile_cons_of_neg (by simpa using hx)]; rfl
      rw [this]; exact hx
    | true =>
      have : place (x :: ks) k = place ks k + 1 := by unfold place; rw [List.takeWhile_cons_of_pos (by simpa using hx)]; rfl
      rw [this] at h ⊢
      exact place_not (ks := ks) (by simpa using h)
theorem eq_key (a b c d : Int) (w : World) : (binOp .eql 24 (.agg #[.int .i64 a, .int .i64 b]) (.agg #[.int .i64 c, .int .i64 d])).run Try.prog w = .ok (.bool (decide (a = c) && decide (b = d))) w := by
  rw [run_eql_struct, run_equalIn_agg _ _ _ _ _ (by kernel_rfl : Try.prog.underlying 24 = some (.struct (Try.prog.fieldsOf 24))) (by kernel_rfl : Try.prog.stoodInHeld 24 = false)]
  simp [go_sem]
  by_cases h1 : a = c <;> by_cases h2 : b = d <;> simp [h1, h2]
end Go.Proofs.Ytmmikolcipcldaa
