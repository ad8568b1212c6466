/-
  What is proved here: a row that is appended to, and whose end is shifted by one place (over any program), for rows that may have more cells behind them than the slice could hold. Conditions: each theorem's own.
-/
import Derived.Test.YtmmikolcipcldaaTreeMem
import Derived.OwnWalk
import Derived.Deep.AppendLies
import Derived.Laws.CopyRow
import Derived.Laws.IdiomCopy
namespace Go.Proofs.Ytmmikolcipcldaa
open Go.RowKit Go.Deep

/-- the row that a step may write. -/
def rowOf? (g c : Nat) : Option Nat := if 0 < c then some g else none
section
variable {P : Program} (w : World)
theorem run_append_row (t ty e : TypeId) (i : TypeInfo) (z : Value) (size bytes : Nat) (ht : P.underlying t = some (.slice e)) (hi : P.info? e = some i) (hz : i.zero = some z)
    (hsize : i.size = size) (hby : i.bytes = bytes) (hzs : z.cells.size = size) (g n c : Nat) (xs : List Value) (hr : RowAt w g e size n c xs)
    (a : Addr) (m c1 : Nat) (hm : 0 < m) (news : List Value) (hl : news.length = m * size) (hnews : ∀ j u, news[j]? = some u → w.cell? (a.add j) = some u) (h1 : ∀ u ∈ news, u.oneCell' = true)
    (h63 : n + m ≤ maxLen) (hbytes : (n + m) * bytes ≤ 140737488355328) :
    ∃ g' c' w' spare, (Builtin.append_ #[t, t] ty #[sl g n c, .slice (some a) m c1]).run P w = .ok (.slice (some ⟨g', 0, none⟩) (n + m) c') w' ∧ 0 < c' ∧ n + m ≤ c' ∧
      Blk w' g' e (xs ++ news ++ spare).toArray ∧ c' * size ≤ (xs ++ news ++ spare).length ∧ w.grownBy w' (rowOf? g c) ∧ ((0 < c ∧ g' = g) ∨ w.heap.size ≤ g') := by
  subst hsize
  subst hby
  have hsmall : n + m ≤ 9223372036854775807 := by simp only [maxLen] at h63; omega
  obtain ⟨hnc, hxl, hrow⟩ := hr
  have grown : ∀ (old : Nat), old < n + m → ∀ (row : Option Nat), ∃ spare : List Value,
      Blk (w.drew.alloc (.cells (xs.toArray ++ news.toArray ++ Builtin.zeroCells z.cells (grownCap w (n + m) old e - (n + m))) e)) w.heap.size e (xs ++ news ++ spare).toArray ∧
      grownCap w (n + m) old e * i.size ≤ (xs ++ news ++ spare).length ∧
      w.grownBy (w.drew.alloc (.cells (xs.toArray ++ news.toArray ++ Builtin.zeroCells z.cells (grownCap w (n + m) old e - (n + m))) e)) row := by
    intro old ho row
    have hge := grownCap_ge w (n + m) old e
    refine ⟨(Builtin.zeroCells z.cells (grownCap w (n + m) old e - (n + m))).toList, ?_, ?_, ⟨rfl, rfl, rfl, by simp, fun k hk _ => Below.heap_alloc w.drew _ k hk⟩⟩
    · have := heap_alloc_new w.drew (.cells (xs.toArray ++ news.toArray ++ Builtin.zeroCells z.cells (grownCap w (n + m) old e - (n + m))) e)
      unfold Blk
      rw [show w.heap.size = w.drew.heap.size from rfl, this]
      congr 2
      apply Array.toList_inj.1
      simp
    · rw [List.length_append, List.length_append, hxl, hl, Array.length_toList, size_zeroCells, hzs, ← Nat.add_mul, ← Nat.add_mul]
      exact Nat.le_of_eq (by congr 1; omega)
  by_cases hc : c = 0
  · subst hc
    obtain rfl : n = 0 := by omega
    have hx : xs = [] := List.eq_nil_of_length_eq_zero (by simpa using hxl)
    subst hx
    have hrun := run_append_nil (P := P) w t ty e i z ht hi hz a m c1 news hl hnews hm (by omega) (by have hb := hbytes; simp only [Nat.zero_add] at hb; omega)
    obtain ⟨sp, h2, h3, h4⟩ := grown 0 (by omega) (rowOf? g 0)
    simp only [Nat.zero_add, List.nil_append, Array.empty_append] at h2 h3 h4 ⊢
    have hge := grownCap_ge w m 0 e
    exact ⟨_, _, _, sp, hrun, by omega, hge, by simpa using h2, by simpa using h3, by simpa using h4, .inr (Nat.le_refl _)⟩
  · obtain ⟨cur, hg, hcs, htake⟩ := hrow (by omega)
    rw [sl_pos g n c (by omega)]
    by_cases hroom : n + m ≤ c
    · have hfit : n * i.size + news.length ≤ cur.size := by rw [hl, ← Nat.add_mul]; exact Nat.le_trans (Nat.mul_le_mul_right _ hroom) hcs
      have hrun := run_append_room (P := P) w t ty e i ht hi g n c cur hg a m c1 news hl hnews h1 hroom hfit
      rw [htake] at hrun
      refine ⟨g, c, _, cur.toList.drop (n * i.size + news.length), hrun, by omega, hroom, setRow_heap w g cur _ e _ hg, ?_, ⟨rfl, rfl, rfl, by simp, fun k _ hk => setRow_other w g k _ (fun e => hk (by unfold rowOf?; rw [if_pos (by omega), e]))⟩, .inl ⟨by omega, rfl⟩⟩
      simp only [List.length_append, List.length_drop, Array.length_toList]
      rw [hxl]
      omega
    · have holds : ∀ j u, xs[j]? = some u → w.cell? ((⟨g, 0, none⟩ : Addr).add j) = some u := fun j u hu => by
        rw [Go.WideShapes.add_plain, Nat.zero_add]
        exact RowAt.cell (t := e) (size := i.size) (n := n) (c := c) ⟨hnc, hxl, hrow⟩ (by omega) hu
      have hrun := run_append_grow (P := P) w t ty e i z ht hi hz ⟨g, 0, none⟩ n c xs hxl holds a m c1 news hl hnews (by omega) (by omega) (growslice_fits (by omega) hbytes)
      obtain ⟨sp, h2, h3, h4⟩ := grown c (by omega) (rowOf? g c)
      have hge := grownCap_ge w (n + m) c e
      exact ⟨_, _, _, sp, hrun, by omega, hge, h2, h3, h4, .inr (Nat.le_refl _)⟩

theorem run_copy_sz (dT sT ty elem : TypeId) (s : Nat) (g o dLen dCap : Nat) (a : Addr) (sLen sCap : Nat) (cur : Array Value) (t : TypeId) (cs : List Value)
    (hu : P.underlying dT = some (.slice elem)) (hs : (P.info? elem).map (·.size) = some s)
    (hg : w.heap[g]? = some (.cells cur t (0, 0))) (hn : cs.length = Nat.min sLen dLen * s)
    (hsrc : ∀ j v, cs[j]? = some v → w.cell? (a.add j) = some v) (hfit : o + cs.length ≤ cur.size) (h1 : ∀ v ∈ cs, v.oneCell' = true) :
    (Builtin.copy_ #[dT, sT] ty #[.slice (some ⟨g, o, none⟩) dLen dCap, .slice (some a) sLen sCap]).run P w =
      .ok (goInt (Nat.min sLen dLen)) (w.setRow g (cur.toList.take o ++ cs ++ cur.toList.drop (o + cs.length)).toArray) := by
  have hl := run_loadCells_list (P := P) w a cs hsrc
  have hst := run_storeCells_at P g o t cs 0 cur w hg (by simpa using hfit) h1
  cases hq : P.info? elem with
  | none => simp [hq] at hs
  | some i =>
    have hi : i.size = s := by simpa [hq] using hs
    rw [hn] at hl
    simp [Builtin.copy_, run_underlying hu, Builtin.lenOf, Builtin.firstCells, sizeOf, typeInfo, hq, hi, hl, hst]
theorem run_copy_no (dT sT ty elem : TypeId) (s : Nat) (d a : Option Addr) (dLen dCap sLen sCap : Nat) (hu : P.underlying dT = some (.slice elem)) (hs : (P.info? elem).map (·.size) = some s) (hn : Nat.min sLen dLen = 0) :
    (Builtin.copy_ #[dT, sT] ty #[.slice d dLen dCap, .slice a sLen sCap]).run P w = .ok (goInt 0) w := by
  cases hq : P.info? elem with
  | none => simp [hq] at hs
  | some i =>
    cases d <;> cases a <;> simp [Builtin.copy_, run_underlying hu, Builtin.lenOf, Builtin.firstCells, sizeOf, typeInfo, hq, hn, loadCells, loadCellsFrom, storeCells]
end

/-- a list with one more at a place. -/
def insAt {α : Type} (l : List α) (i : Nat) (x : α) : List α := l.take i ++ x :: l.drop i
theorem insAt_len {α : Type} (l : List α) (i : Nat) (x : α) : (insAt l i x).length = l.length + 1 := by simp [insAt]; omega
/-- the row behind the shift: the place is written anew. -/
theorem shifted {s n i : Nat} {xs news spare : List Value} (hx : xs.length = n * s) (hn : news.length = s) (hi : i ≤ n) :
    ∃ Y : List Value, Y.length = s ∧ (xs ++ news ++ spare).take ((i + 1) * s) ++ xs.drop (i * s) ++ (xs ++ news ++ spare).drop ((i + 1) * s + (xs.drop (i * s)).length) = xs.take (i * s) ++ Y ++ (xs.drop (i * s) ++ spare) := by
  have h1 : i * s ≤ n * s := Nat.mul_le_mul_right _ hi
  have h2 : (i + 1) * s = i * s + s := by rw [Nat.succ_mul]
  have h3 : (i + 1) * s + (xs.drop (i * s)).length = (xs ++ news).length := by rw [List.length_drop, List.length_append, hx, hn, h2]; omega
  refine ⟨((xs ++ news ++ spare).take ((i + 1) * s)).drop (i * s), ?_, ?_⟩
  · rw [List.length_drop, List.length_take, List.length_append, List.length_append, hx, hn, h2]
    omega
  · rw [h3, List.drop_left]
    have h4 : (xs ++ news ++ spare).take ((i + 1) * s) = xs.take (i * s) ++ ((xs ++ news ++ spare).take ((i + 1) * s)).drop (i * s) := by
      have h5 := List.take_append_drop (i * s) ((xs ++ news ++ spare).take ((i + 1) * s))
      rw [List.take_take, Nat.min_eq_left (by omega), List.append_assoc, List.take_append_of_le_length (by omega)] at h5
      rw [← List.append_assoc] at h5
      exact h5.symm
    rw [← List.append_assoc, ← h4, List.append_assoc]
theorem copy_shift {P : Program} (w1 : World) (dT ty e : TypeId) (s n i g o o' c1 c2 n1 n2 : Nat) (xs news sp : List Value) (hu : P.underlying dT = some (.slice e)) (hs : (P.info? e).map (·.size) = some s)
    (hx : xs.length = n * s) (hn : news.length = s) (hi : i < n) (hb : Blk w1 g e (xs ++ news ++ sp).toArray) (h1 : ∀ v ∈ xs, v.oneCell' = true) (ho : o = (i + 1) * s) (ho' : o' = i * s) (hn1 : n1 = n - i) (hn2 : n2 = n + 1 - i) :
    ∃ w2 Y, (Builtin.copy_ #[dT, dT] ty #[.slice (some ⟨g, o, none⟩) n1 c1, .slice (some ⟨g, o', none⟩) n2 c2]).run P w1 = .ok (goInt n1) w2 ∧ Y.length = s ∧
      Blk w2 g e (xs.take (i * s) ++ Y ++ (xs.drop (i * s) ++ sp)).toArray ∧ w1.grownBy w2 (some g) := by
  subst ho ho' hn1 hn2
  have hmin : Nat.min (n + 1 - i) (n - i) = n - i := Nat.min_eq_right (by omega)
  have hm1 : i * s ≤ n * s := Nat.mul_le_mul_right _ (by omega)
  have hm2 : (i + 1) * s = i * s + s := Nat.succ_mul i s
  have hm3 : (n - i) * s = n * s - i * s := Nat.sub_mul n i s
  have hrun := run_copy_sz (P := P) w1 dT dT ty e s g ((i + 1) * s) (n - i) c1 ⟨g, i * s, none⟩ (n + 1 - i) c2 (xs ++ news ++ sp).toArray e (xs.drop (i * s)) hu hs hb
    (by rw [hmin, List.length_drop, hx]; omega)
    (fun j v hv => by
      rw [Go.WideShapes.add_plain, hb.cell]
      rw [List.getElem?_drop] at hv
      have hlt : i * s + j < xs.length := (List.getElem?_eq_some_iff.1 hv).1
      simp only [List.getElem?_toArray]
      rw [List.append_assoc, List.getElem?_append_left hlt]
      exact hv)
    (by simp only [List.size_toArray, List.length_append, List.length_drop]; rw [hx, hn]; omega)
    (fun v hv => h1 v (List.mem_of_mem_drop hv))
  rw [hmin] at hrun
  obtain ⟨Y, hY, he⟩ := shifted (s := s) (n := n) (i := i) (xs := xs) (news := news) (spare := sp) hx hn (by omega)
  have hrun2 : (Builtin.copy_ #[dT, dT] ty #[.slice (some ⟨g, (i + 1) * s, none⟩) (n - i) c1, .slice (some ⟨g, i * s, none⟩) (n + 1 - i) c2]).run P w1 = .ok (goInt ((n - i : Nat) : Int)) (w1.setRow g (xs.take (i * s) ++ Y ++ (xs.drop (i * s) ++ sp)).toArray) := by
    rw [← he]
    exact hrun
  exact ⟨_, Y, hrun2, hY, setRow_heap w1 g _ _ e (0, 0) hb, ⟨rfl, rfl, rfl, by simp, fun k _ hk => setRow_other w1 g k _ (fun e => hk (by rw [e]))⟩⟩
theorem mid_at {A B : List Value} {y : Value} {i : Nat} (hi : i = A.length) : (A ++ [y] ++ B).toArray[i]? = some y := by
  subst hi
  simp
/-- one cell at a place is written anew. -/
theorem set_mid {A B : List Value} {y x : Value} {i : Nat} (hi : i = A.length) : (A ++ [y] ++ B).toArray.setIfInBounds i x = (A ++ [x] ++ B).toArray := by
  subst hi
  apply Array.toList_inj.1
  simp
theorem take_row {A B C : List Value} {m : Nat} (h : m = (A ++ B).length) : (A ++ (B ++ C)).take m = A ++ B := by
  subst h
  rw [← List.append_assoc]
  exact List.take_left
theorem grown_join {w1 w2 w3 : World} {r : Option Nat} {g : Nat} (h1 : w1.grownBy w2 r) (h2 : w2.grownBy w3 (some g)) (hg : r = some g ∨ w1.heap.size ≤ g) : w1.grownBy w3 r :=
  ⟨h2.os.trans h1.os, h2.tape.trans h1.tape, h2.output.trans h1.output, Nat.le_trans h1.size h2.size, fun k hk hr => (h2.block k (Nat.lt_of_lt_of_le hk h1.size) (fun e => by
    rcases hg with h | h
    · exact hr (e.trans h.symm)
    · cases e; omega)).trans (h1.block k hk hr)⟩
theorem grown_after {w w1 w2 : World} {r : Option Nat} (h1 : Below w.heap.size w w1) (h2 : w1.grownBy w2 r) : w.grownBy w2 r :=
  ⟨h2.os.trans h1.os, h2.tape.trans h1.tape, h2.output.trans h1.output, Nat.le_trans h1.size h2.size, fun k hk hr => (h2.block k (Nat.lt_of_lt_of_le hk h1.size) hr).trans (h1.block k hk)⟩
theorem grown_set {w1 w2 : World} {r : Option Nat} {g o : Nat} {v : Value} (h1 : w1.grownBy w2 r) (hg : r = some g ∨ w1.heap.size ≤ g) : w1.grownBy (w2.setCell ⟨g, o, none⟩ v) r :=
  grown_join h1 ⟨rfl, rfl, rfl, by simp [World.setCell], fun k _ hk => Below.heap_setCell w2 ⟨g, o, none⟩ v k (fun e => hk (by rw [e]))⟩ hg
end Go.Proofs.Ytmmikolcipcldaa
