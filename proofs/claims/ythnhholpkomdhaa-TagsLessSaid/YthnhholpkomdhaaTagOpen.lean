/-
  What is proved here: a tag that comes in (chapter 9). Conditions: each theorem's own.
-/
import Derived.Test.YthnhholpkomdhaaTagRCheck
namespace Go.Proofs.Ythnhholpkomdhaa
open Go.ChangeShapes Go.WideShapes Go.ChangeAt Go.RowKit Go.Deep Go.Joins

theorem I64.of' {x : Int} (h : (Lit.int .i64 x).wf = true) : I64 x := by
  simp [Lit.wf, IntKind.min, IntKind.max, IntKind.signed, IntKind.bits] at h
  exact ⟨by omega, by omega⟩
theorem tagC : Try.prog.cellsOf 29 = 19 := by kernel_rfl
theorem scaC : Try.prog.cellsOf 23 = 6 := by kernel_rfl
theorem bandC : Try.prog.cellsOf 25 = 2 := by kernel_rfl
theorem limC : Try.prog.cellsOf 27 = 6 := by kernel_rfl
theorem intC : Try.prog.cellsOf 3 = 1 := by kernel_rfl
theorem boolC : Try.prog.cellsOf 4 = 1 := by kernel_rfl
theorem strC : Try.prog.cellsOf 9 = 1 := by kernel_rfl
/-- what a tag's numbers are. -/
structure Tag.Fit (t : Tag) : Prop where
  g : t.g.size ≤ 9223372036854775807
  unit : I64 t.unit
  kind : I64 t.kind
  addr : I64 t.addr
  every : I64 t.every
theorem list19 {α : Type} : ∀ (l : List α), l.length = 19 → ∃ a b c d e f g h i j k m n o p q r s t, l = [a, b, c, d, e, f, g, h, i, j, k, m, n, o, p, q, r, s, t]
  | [a, b, c, d, e, f, g, h, i, j, k, m, n, o, p, q, r, s, t], _ => ⟨a, b, c, d, e, f, g, h, i, j, k, m, n, o, p, q, r, s, t, rfl⟩
set_option maxRecDepth 10000 in
theorem tag_of_cells {H : Type} {enc : TypeId × Value → H} {W : World} {base : Nat} {spare : Nat → Bool} {held : Bool} {fuel : Nat} {cs : List Value} {x : DataW H × List MemPlace}
    (h : DataW.trod enc Try.prog W base spare held fuel 29 cs = some x) :
    ∃ t : Tag, cs = t.cells.toList ∧ t.Fit := by
  obtain ⟨ys, n, hn, hy, hlen, hyl, hg⟩ := DataW.trod_struct Try.underlying29 h
  rw [tagC] at hlen
  obtain ⟨v0, v1, v2, v3, v4, v5, v6, v7, v8, v9, v10, v11, v12, v13, v14, v15, v16, v17, v18, rfl⟩ := list19 cs hlen
  have lys : ys.length = 8 := hyl
  have g0 : DataW.trod enc Try.prog W base spare held n 9 (([v0, v1, v2, v3, v4, v5, v6, v7, v8, v9, v10, v11, v12, v13, v14, v15, v16, v17, v18].drop 0).take (Try.prog.cellsOf 9)) = ys[0]? := hg 0 _ rfl
  rw [List.getElem?_eq_getElem (show 0 < ys.length by first | omega | (rw [lys]; decide))] at g0
  have g1 : DataW.trod enc Try.prog W base spare held n 3 (([v0, v1, v2, v3, v4, v5, v6, v7, v8, v9, v10, v11, v12, v13, v14, v15, v16, v17, v18].drop 1).take (Try.prog.cellsOf 3)) = ys[1]? := hg 1 _ rfl
  rw [List.getElem?_eq_getElem (show 1 < ys.length by first | omega | (rw [lys]; decide))] at g1
  have g2 : DataW.trod enc Try.prog W base spare held n 3 (([v0, v1, v2, v3, v4, v5, v6, v7, v8, v9, v10, v11, v12, v13, v14, v15, v16, v17, v18].drop 2).take (Try.prog.cellsOf 3)) = ys[2]? := hg 2 _ rfl
  rw [List.getElem?_eq_getElem (show 2 < ys.length by first | omega | (rw [lys]; decide))] at g2
  have g3 : DataW.trod enc Try.prog W base spare held n 3 (([v0, v1, v2, v3, v4, v5, v6, v7, v8, v9, v10, v11, v12, v13, v14, v15, v16, v17, v18].drop 3).take (Try.prog.cellsOf 3)) = ys[3]? := hg 3 _ rfl
  rw [List.getElem?_eq_getElem (show 3 < ys.length by first | omega | (rw [lys]; decide))] at g3
  have g4 : DataW.trod enc Try.prog W base spare held n 3 (([v0, v1, v2, v3, v4, v5, v6, v7, v8, v9, v10, v11, v12, v13, v14, v15, v16, v17, v18].drop 4).take (Try.prog.cellsOf 3)) = ys[4]? := hg 4 _ rfl
  rw [List.getElem?_eq_getElem (show 4 < ys.length by first | omega | (rw [lys]; decide))] at g4
  have g5 : DataW.trod enc Try.prog W base spare held n 23 (([v0, v1, v2, v3, v4, v5, v6, v7, v8, v9, v10, v11, v12, v13, v14, v15, v16, v17, v18].drop 5).take (Try.prog.cellsOf 23)) = ys[5]? := hg 5 _ rfl
  rw [List.getElem?_eq_getElem (show 5 < ys.length by first | omega | (rw [lys]; decide))] at g5
  have g6 : DataW.trod enc Try.prog W base spare held n 25 (([v0, v1, v2, v3, v4, v5, v6, v7, v8, v9, v10, v11, v12, v13, v14, v15, v16, v17, v18].drop 11).take (Try.prog.cellsOf 25)) = ys[6]? := hg 6 _ rfl
  rw [List.getElem?_eq_getElem (show 6 < ys.length by first | omega | (rw [lys]; decide))] at g6
  have g7 : DataW.trod enc Try.prog W base spare held n 27 (([v0, v1, v2, v3, v4, v5, v6, v7, v8, v9, v10, v11, v12, v13, v14, v15, v16, v17, v18].drop 13).take (Try.prog.cellsOf 27)) = ys[7]? := hg 7 _ rfl
  rw [List.getElem?_eq_getElem (show 7 < ys.length by first | omega | (rw [lys]; decide))] at g7
  clear hg
  simp only [scaC, bandC, limC, intC, strC, List.drop_succ_cons, List.drop_zero, List.take_succ_cons, List.take_zero] at g0 g1 g2 g3 g4 g5 g6 g7
  obtain ⟨n0, e0, _, w0⟩ := DataW.trod_string Try.underlying9 g0
  obtain ⟨n1, e1, _, w1⟩ := DataW.trod_int Try.underlying3 g1
  obtain ⟨n2, e2, _, w2⟩ := DataW.trod_int Try.underlying3 g2
  obtain ⟨n3, e3, _, w3⟩ := DataW.trod_int Try.underlying3 g3
  obtain ⟨n4, e4, _, w4⟩ := DataW.trod_int Try.underlying3 g4
  obtain ⟨y5, m5, _, _, _, ly5, k5⟩ := DataW.trod_struct Try.underlying23 g5
  obtain ⟨y6, m6, _, _, _, ly6, k6⟩ := DataW.trod_struct Try.underlying25 g6
  obtain ⟨y7, m7, _, _, _, ly7, k7⟩ := DataW.trod_struct Try.underlying27 g7
  replace ly5 : y5.length = 6 := ly5
  replace ly6 : y6.length = 2 := ly6
  replace ly7 : y7.length = 6 := ly7
  have p0 : DataW.trod enc Try.prog W base spare held m5 4 (([v5, v6, v7, v8, v9, v10].drop 0).take (Try.prog.cellsOf 4)) = y5[0]? := k5 0 _ rfl
  rw [List.getElem?_eq_getElem (show 0 < y5.length by first | omega | (rw [ly5]; decide))] at p0
  have p1 : DataW.trod enc Try.prog W base spare held m5 4 (([v5, v6, v7, v8, v9, v10].drop 1).take (Try.prog.cellsOf 4)) = y5[1]? := k5 1 _ rfl
  rw [List.getElem?_eq_getElem (show 1 < y5.length by first | omega | (rw [ly5]; decide))] at p1
  have p2 : DataW.trod enc Try.prog W base spare held m5 4 (([v5, v6, v7, v8, v9, v10].drop 2).take (Try.prog.cellsOf 4)) = y5[2]? := k5 2 _ rfl
  rw [List.getElem?_eq_getElem (show 2 < y5.length by first | omega | (rw [ly5]; decide))] at p2
  have p3 : DataW.trod enc Try.prog W base spare held m5 3 (([v5, v6, v7, v8, v9, v10].drop 3).take (Try.prog.cellsOf 3)) = y5[3]? := k5 3 _ rfl
  rw [List.getElem?_eq_getElem (show 3 < y5.length by first | omega | (rw [ly5]; decide))] at p3
  have p4 : DataW.trod enc Try.prog W base spare held m5 3 (([v5, v6, v7, v8, v9, v10].drop 4).take (Try.prog.cellsOf 3)) = y5[4]? := k5 4 _ rfl
  rw [List.getElem?_eq_getElem (show 4 < y5.length by first | omega | (rw [ly5]; decide))] at p4
  have p5 : DataW.trod enc Try.prog W base spare held m5 3 (([v5, v6, v7, v8, v9, v10].drop 5).take (Try.prog.cellsOf 3)) = y5[5]? := k5 5 _ rfl
  rw [List.getElem?_eq_getElem (show 5 < y5.length by first | omega | (rw [ly5]; decide))] at p5
  have q0 : DataW.trod enc Try.prog W base spare held m6 3 (([v11, v12].drop 0).take (Try.prog.cellsOf 3)) = y6[0]? := k6 0 _ rfl
  rw [List.getElem?_eq_getElem (show 0 < y6.length by first | omega | (rw [ly6]; decide))] at q0
  have q1 : DataW.trod enc Try.prog W base spare held m6 3 (([v11, v12].drop 1).take (Try.prog.cellsOf 3)) = y6[1]? := k6 1 _ rfl
  rw [List.getElem?_eq_getElem (show 1 < y6.length by first | omega | (rw [ly6]; decide))] at q1
  have r0 : DataW.trod enc Try.prog W base spare held m7 4 (([v13, v14, v15, v16, v17, v18].drop 0).take (Try.prog.cellsOf 4)) = y7[0]? := k7 0 _ rfl
  rw [List.getElem?_eq_getElem (show 0 < y7.length by first | omega | (rw [ly7]; decide))] at r0
  have r1 : DataW.trod enc Try.prog W base spare held m7 4 (([v13, v14, v15, v16, v17, v18].drop 1).take (Try.prog.cellsOf 4)) = y7[1]? := k7 1 _ rfl
  rw [List.getElem?_eq_getElem (show 1 < y7.length by first | omega | (rw [ly7]; decide))] at r1
  have r2 : DataW.trod enc Try.prog W base spare held m7 4 (([v13, v14, v15, v16, v17, v18].drop 2).take (Try.prog.cellsOf 4)) = y7[2]? := k7 2 _ rfl
  rw [List.getElem?_eq_getElem (show 2 < y7.length by first | omega | (rw [ly7]; decide))] at r2
  have r3 : DataW.trod enc Try.prog W base spare held m7 3 (([v13, v14, v15, v16, v17, v18].drop 3).take (Try.prog.cellsOf 3)) = y7[3]? := k7 3 _ rfl
  rw [List.getElem?_eq_getElem (show 3 < y7.length by first | omega | (rw [ly7]; decide))] at r3
  have r4 : DataW.trod enc Try.prog W base spare held m7 3 (([v13, v14, v15, v16, v17, v18].drop 4).take (Try.prog.cellsOf 3)) = y7[4]? := k7 4 _ rfl
  rw [List.getElem?_eq_getElem (show 4 < y7.length by first | omega | (rw [ly7]; decide))] at r4
  have r5 : DataW.trod enc Try.prog W base spare held m7 3 (([v13, v14, v15, v16, v17, v18].drop 5).take (Try.prog.cellsOf 3)) = y7[5]? := k7 5 _ rfl
  rw [List.getElem?_eq_getElem (show 5 < y7.length by first | omega | (rw [ly7]; decide))] at r5
  clear k5 k6 k7
  simp only [intC, boolC, List.drop_succ_cons, List.drop_zero, List.take_succ_cons, List.take_zero] at p0 p1 p2 p3 p4 p5 q0 q1 r0 r1 r2 r3 r4 r5
  obtain ⟨a0, f0, _⟩ := DataW.trod_bool Try.underlying4 p0
  obtain ⟨a1, f1, _⟩ := DataW.trod_bool Try.underlying4 p1
  obtain ⟨a2, f2, _⟩ := DataW.trod_bool Try.underlying4 p2
  obtain ⟨a3, f3, _⟩ := DataW.trod_int Try.underlying3 p3
  obtain ⟨a4, f4, _⟩ := DataW.trod_int Try.underlying3 p4
  obtain ⟨a5, f5, _⟩ := DataW.trod_int Try.underlying3 p5
  obtain ⟨b0, i0, _⟩ := DataW.trod_int Try.underlying3 q0
  obtain ⟨b1, i1, _⟩ := DataW.trod_int Try.underlying3 q1
  obtain ⟨c0, j0, _⟩ := DataW.trod_bool Try.underlying4 r0
  obtain ⟨c1, j1, _⟩ := DataW.trod_bool Try.underlying4 r1
  obtain ⟨c2, j2, _⟩ := DataW.trod_bool Try.underlying4 r2
  obtain ⟨c3, j3, _⟩ := DataW.trod_int Try.underlying3 r3
  obtain ⟨c4, j4, _⟩ := DataW.trod_int Try.underlying3 r4
  obtain ⟨c5, j5, _⟩ := DataW.trod_int Try.underlying3 r5
  simp only [List.cons.injEq, and_true] at e0 e1 e2 e3 e4 f0 f1 f2 f3 f4 f5 i0 i1 j0 j1 j2 j3 j4 j5
  subst e0 e1 e2 e3 e4 f0 f1 f2 f3 f4 f5 i0 i1 j0 j1 j2 j3 j4 j5
  exact ⟨⟨n0, n1, n2, n3, n4, ⟨a0, a1, a2, a3, a4, a5⟩, ⟨b0, b1⟩, ⟨c0, c1, c2, c3, c4, c5⟩⟩, rfl, ⟨by unfold maxLen at w0; exact w0, I64.of' w1, I64.of' w2, I64.of' w3, I64.of' w4⟩⟩
theorem open_tag {H : Type} {enc : TypeId × Value → H} {W : World} {b0 : Nat} {v : Value} {d : DataW H} {p : List MemPlace}
    (hv : Value.okWide Try.prog W .any b0 29 v) (h : DataW.Trod enc Try.prog W 0 (fun _ => true) true 29 v d p) :
    ∃ t : Tag, v = .agg t.cells ∧ t.Fit := by
  obtain ⟨cs, rfl, hsz⟩ := okWide_struct Try.underlying29 hv
  obtain ⟨fuel, hf⟩ := h
  obtain ⟨t, ht, hfit⟩ := tag_of_cells hf
  refine ⟨t, ?_, hfit⟩
  have e : cs.toList = t.cells.toList := ht
  exact congrArg _ (Array.toList_inj.1 e)
end Go.Proofs.Ythnhholpkomdhaa
