/-
  What is proved here: what a list of operations and a pair of keys that come in read as (chapter 15). Conditions: each theorem's own.
-/
import Derived.Test.YtmmikolcipcldaaTreePlayed
import Derived.OpenShut
namespace Go.Proofs.Ytmmikolcipcldaa
open Go.ChangeShapes Go.WideShapes Go.ChangeAt Go.RowKit Go.Deep Go.Joins

theorem opC : Try.prog.cellsOf 73 = 4 := by kernel_rfl
theorem opB : Try.prog.bytesOf 73 = 32 := by kernel_rfl
theorem intC : Try.prog.cellsOf 3 = 1 := by kernel_rfl
theorem list4 {α : Type} : ∀ (l : List α), l.length = 4 → ∃ a b c d, l = [a, b, c, d]
  | [a, b, c, d], _ => ⟨a, b, c, d, rfl⟩
theorem list2 {α : Type} : ∀ (l : List α), l.length = 2 → ∃ a b, l = [a, b]
  | [a, b], _ => ⟨a, b, rfl⟩
def OpR.cells (o : OpR) : Array Value := #[.int .i64 o.kind, .int .i64 o.val, .int .i64 o.key.t, .int .i64 o.key.s]
section
variable {H : Type} {enc : TypeId × Value → H} {W : World} {base : Nat} {spare : Nat → Bool} {held : Bool} {fuel : Nat} {cs : List Value} {x : DataW H × List MemPlace}
set_option maxRecDepth 10000 in
theorem key_of_cells (h : DataW.trod enc Try.prog W base spare held fuel 24 cs = some x) : ∃ k : Ky, cs = k.cells.toList ∧ KyOk k := by
  obtain ⟨ys, n, hn, hy, hlen, hyl, hg⟩ := DataW.trod_struct Try.underlying24 h
  rw [keyC] at hlen
  obtain ⟨v0, v1, rfl⟩ := list2 cs hlen
  have lys : ys.length = 2 := hyl
  have g0 : DataW.trod enc Try.prog W base spare held n 3 (([v0, v1].drop 0).take (Try.prog.cellsOf 3)) = ys[0]? := hg 0 _ rfl
  rw [List.getElem?_eq_getElem (show 0 < ys.length by first | omega | (rw [lys]; decide))] at g0
  have g1 : DataW.trod enc Try.prog W base spare held n 3 (([v0, v1].drop 1).take (Try.prog.cellsOf 3)) = ys[1]? := hg 1 _ rfl
  rw [List.getElem?_eq_getElem (show 1 < ys.length by first | omega | (rw [lys]; decide))] at g1
  clear hg
  simp only [intC, List.drop_succ_cons, List.drop_zero, List.take_succ_cons, List.take_zero] at g0 g1
  obtain ⟨n0, e0, _, w0⟩ := DataW.trod_int Try.underlying3 g0
  obtain ⟨n1, e1, _, w1⟩ := DataW.trod_int Try.underlying3 g1
  simp only [List.cons.injEq, and_true] at e0 e1
  subst e0 e1
  exact ⟨⟨n0, n1⟩, rfl, I64.of w0, I64.of w1⟩
set_option maxRecDepth 10000 in
theorem op_of_cells (h : DataW.trod enc Try.prog W base spare held fuel 73 cs = some x) : ∃ o : OpR, cs = o.cells.toList ∧ KyOk o.key := by
  obtain ⟨ys, n, hn, hy, hlen, hyl, hg⟩ := DataW.trod_struct Try.underlying73 h
  rw [opC] at hlen
  obtain ⟨v0, v1, v2, v3, rfl⟩ := list4 cs hlen
  have lys : ys.length = 3 := hyl
  have g0 : DataW.trod enc Try.prog W base spare held n 3 (([v0, v1, v2, v3].drop 0).take (Try.prog.cellsOf 3)) = ys[0]? := hg 0 _ rfl
  rw [List.getElem?_eq_getElem (show 0 < ys.length by first | omega | (rw [lys]; decide))] at g0
  have g1 : DataW.trod enc Try.prog W base spare held n 3 (([v0, v1, v2, v3].drop 1).take (Try.prog.cellsOf 3)) = ys[1]? := hg 1 _ rfl
  rw [List.getElem?_eq_getElem (show 1 < ys.length by first | omega | (rw [lys]; decide))] at g1
  have g2 : DataW.trod enc Try.prog W base spare held n 24 (([v0, v1, v2, v3].drop 2).take (Try.prog.cellsOf 24)) = ys[2]? := hg 2 _ rfl
  rw [List.getElem?_eq_getElem (show 2 < ys.length by first | omega | (rw [lys]; decide))] at g2
  clear hg
  simp only [intC, keyC, List.drop_succ_cons, List.drop_zero, List.take_succ_cons, List.take_zero] at g0 g1 g2
  obtain ⟨n0, e0, _, w0⟩ := DataW.trod_int Try.underlying3 g0
  obtain ⟨n1, e1, _, w1⟩ := DataW.trod_int Try.underlying3 g1
  obtain ⟨k, e2, hk⟩ := key_of_cells g2
  simp only [List.cons.injEq, and_true, Ky.cells] at e0 e1 e2
  obtain ⟨e2, e3⟩ := e2
  subst e0 e1 e2 e3
  exact ⟨⟨n0, n1, k⟩, rfl, hk⟩
end
set_option maxRecDepth 100000 in
theorem open_ops {H : Type} {enc : TypeId × Value → H} {W : World} {b0 : Nat} {v : Value} {d : DataW H} {p : List MemPlace}
    (hv : Value.okWide Try.prog W .any b0 22 v) (h : DataW.Trod enc Try.prog W 0 (fun _ => true) true 22 v d p)
    {ts : List TypeId} {ds : List (DataW H)} (hsz : (DataW.weightsEach Try.prog ts ds).all (· ≤ reachBytes) = true) {j : Nat} (hj : ts[j]? = some 22) (hd : ds[j]? = some d) :
    ∃ L : List OpR, OpsAt W v L ∧ L.length ≤ 140737488351232 := by
  obtain ⟨a0, len, cap, rfl⟩ := okWide_slice Try.underlying22 hv
  obtain ⟨fuel, hf⟩ := h
  rcases open_slice Try.underlying22 hf with ⟨hcs, _⟩ | ⟨a, l0, c0, m, n, D, Pl, hcs, _, hl, _, hm, hx, hi⟩
  · simp only [Value.cells, List.cons.injEq, and_true, Value.slice.injEq] at hcs
    obtain ⟨rfl, rfl, rfl⟩ := hcs
    exact ⟨[], ⟨none, 0, rfl, Nat.le_refl _, fun h => absurd h (by simp)⟩, by simp⟩
  · simp only [Value.cells, List.cons.injEq, and_true, Value.slice.injEq] at hcs
    obtain ⟨rfl, rfl, rfl⟩ := hcs
    simp only [if_true] at hm
    have hcap : cap * 32 ≤ 140737488351232 := by
      simp only [Prod.mk.injEq] at hx
      have := sized_slice hsz hj (hd.trans (by rw [hx.1])) Try.underlying22
      rw [opB] at this
      simp only [List.length_map, List.length_range] at this
      have e : len + (m - len) = cap := by omega
      rw [e] at this
      unfold reachBytes at this
      omega
    have hex : ∀ i, i < len → ∃ t : OpR, (∀ j v, t.cells.toList[j]? = some v → W.cell? (a.add (i * 4 + j)) = some v) := by
      intro i hil
      obtain ⟨cs', hc, ht'⟩ := hi i (by omega)
      rw [opC] at hc
      obtain ⟨t, ht, _⟩ := op_of_cells ht'
      refine ⟨t, fun j v hj => ?_⟩
      obtain ⟨_, hcl, hat⟩ := World.cells?_some hc
      rw [← ht] at hj
      have hjl : j < 4 := by have := (List.getElem?_eq_some_iff.1 hj).1; omega
      have := hat j hjl
      rw [← Go.Deep.add_add, this, hj]
    haveI : Inhabited OpR := ⟨o0⟩
    obtain ⟨S, hS⟩ := choose_lt hex
    refine ⟨(List.range len).map S, ⟨some a, cap, by simp, by simp; exact hl, fun hpos => ?_⟩, by simp; omega⟩
    simp only [List.length_map, List.length_range] at hpos
    obtain ⟨b, off, spot⟩ := a
    have hspot : spot = none := by simpa [Addr.add] using World.cell?_spot (hS 0 hpos 0 _ rfl)
    subst hspot
    refine ⟨b, off, rfl, World.block_lt_of_cell? _ _ (hS 0 hpos 0 _ rfl), fun i hil => ?_⟩
    simp only [List.length_map, List.length_range] at hil
    have e : ((List.range len).map S).getD i o0 = S i := by simp [hil]
    rw [e]
    have hc := fun j v hj => hS i hil j v hj
    simp only [Go.WideShapes.add_plain] at hc
    refine ⟨by have := hc 0 _ rfl; simpa [Nat.add_assoc] using this, by have := hc 1 _ rfl; simpa [Nat.add_assoc] using this, by have := hc 2 _ rfl; simpa [Nat.add_assoc] using this, by have := hc 3 _ rfl; simpa [Nat.add_assoc] using this⟩
theorem okWide_array {P : Program} {w : World} {r : Reach} {base : Nat} {t e : TypeId} {n : Nat} {v : Value} (ht : P.underlying t = some (.array n e)) (h : Value.okWide P w r base t v) : ∃ cs, v = .agg cs ∧ cs.size = P.cellsOf t := by
  simp only [Value.okWide, ht] at h
  obtain ⟨cs, h1, h2, _⟩ := h
  exact ⟨cs, h1, h2⟩
theorem twoC : Try.prog.cellsOf 25 = 4 := by kernel_rfl
set_option maxRecDepth 100000 in
theorem open_two {H : Type} {enc : TypeId × Value → H} {W : World} {b0 : Nat} {v : Value} {d : DataW H} {p : List MemPlace}
    (hv : Value.okWide Try.prog W .any b0 25 v) (h : DataW.Trod enc Try.prog W 0 (fun _ => true) true 25 v d p) :
    ∃ a b : Ky, v = .agg #[.int .i64 a.t, .int .i64 a.s, .int .i64 b.t, .int .i64 b.s] ∧ KyOk a ∧ KyOk b := by
  obtain ⟨cs, rfl, hsz⟩ := okWide_array Try.underlying25 hv
  obtain ⟨fuel, hf⟩ := h
  obtain ⟨xs, m, _, _, hlen, hxl, hg⟩ := DataW.trod_array Try.underlying25 hf
  rw [twoC] at hlen
  have e : cs.toList.length = 4 := hlen
  obtain ⟨v0, v1, v2, v3, hcs⟩ := list4 cs.toList e
  have hcs' : (Value.agg cs).cells.toList = [v0, v1, v2, v3] := hcs
  have g0 := hg 0 (by omega)
  have g1 := hg 1 (by omega)
  rw [keyC, hcs'] at g0 g1
  rw [List.getElem?_eq_getElem (show 0 < xs.length by omega)] at g0
  rw [List.getElem?_eq_getElem (show 1 < xs.length by omega)] at g1
  obtain ⟨a, ea, ha⟩ := key_of_cells g0
  obtain ⟨b, eb, hb⟩ := key_of_cells g1
  refine ⟨a, b, ?_, ha, hb⟩
  simp [Ky.cells] at ea eb
  refine congrArg _ (Array.toList_inj.1 ?_)
  rw [hcs]
  simp [ea, eb]
end Go.Proofs.Ytmmikolcipcldaa
