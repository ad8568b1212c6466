/-
  What is proved here: what a band, what is held, a point and a list of points that come in as arguments read as. Conditions: none.
-/
import Derived.Test.YtjidfcogcgaclaaBandStep
import Derived.Test.YtjidfcogcgaclaaPointKit
namespace Go.Proofs.Ytjidfcogcgaclaa
open Go.ChangeShapes Go.WideShapes Go.ChangeAt Go.RowKit Go.Deep Go.Joins

theorem pointC : Try.prog.cellsOf 27 = 2 := by kernel_rfl
theorem bandC : Try.prog.cellsOf 23 = 2 := by kernel_rfl
theorem heldC : Try.prog.cellsOf 25 = 3 := by kernel_rfl
theorem pointB : Try.prog.bytesOf 27 = 16 := by kernel_rfl

theorem open_band {H : Type} {enc : TypeId × Value → H} {W : World} {b0 : Nat} {v : Value} {d : DataW H} {p : List MemPlace}
    (hv : Value.okWide Try.prog W .any b0 23 v) (h : DataW.Trod enc Try.prog W 0 (fun _ => true) true 23 v d p) :
    ∃ s : Band, v = .agg #[.int .i64 s.dead, .int .i64 s.quiet] ∧ I64 s.dead ∧ I64 s.quiet := by
  obtain ⟨v0, v1, y0, y1, n, rfl, _, _, t0, t1⟩ := open_agg2 Try.underlying23 (by kernel_rfl) bandC hv h
  obtain ⟨n0, e0, _, w0⟩ := DataW.trod_int Try.underlying3 t0
  obtain ⟨n1, e1, _, w1⟩ := DataW.trod_int Try.underlying3 t1
  simp only [List.cons.injEq, and_true] at e0 e1
  subst e0 e1
  exact ⟨⟨n0, n1⟩, rfl, I64.of w0, I64.of w1⟩

theorem open_point {H : Type} {enc : TypeId × Value → H} {W : World} {b0 : Nat} {v : Value} {d : DataW H} {p : List MemPlace}
    (hv : Value.okWide Try.prog W .any b0 27 v) (h : DataW.Trod enc Try.prog W 0 (fun _ => true) true 27 v d p) :
    ∃ s : Point, v = .agg #[.int .i64 s.v, .int .i64 s.t] ∧ I64 s.v ∧ I64 s.t := by
  obtain ⟨v0, v1, y0, y1, n, rfl, _, _, t0, t1⟩ := open_agg2 Try.underlying27 (by kernel_rfl) pointC hv h
  obtain ⟨n0, e0, _, w0⟩ := DataW.trod_int Try.underlying3 t0
  obtain ⟨n1, e1, _, w1⟩ := DataW.trod_int Try.underlying3 t1
  simp only [List.cons.injEq, and_true] at e0 e1
  subst e0 e1
  exact ⟨⟨n0, n1⟩, rfl, I64.of w0, I64.of w1⟩

theorem open_held {H : Type} {enc : TypeId × Value → H} {W : World} {b0 : Nat} {v : Value} {d : DataW H} {p : List MemPlace}
    (hv : Value.okWide Try.prog W .any b0 25 v) (h : DataW.Trod enc Try.prog W 0 (fun _ => true) true 25 v d p) :
    ∃ s : Held, v = .agg #[.bool s.has, .int .i64 s.v, .int .i64 s.t] ∧ I64 s.v ∧ I64 s.t := by
  obtain ⟨v0, v1, v2, y0, y1, y2, n, rfl, _, _, t0, t1, t2⟩ := open_agg3 Try.underlying25 (by kernel_rfl) heldC hv h
  obtain ⟨n0, e0, _⟩ := DataW.trod_bool Try.underlying4 t0
  obtain ⟨n1, e1, _, w1⟩ := DataW.trod_int Try.underlying3 t1
  obtain ⟨n2, e2, _, w2⟩ := DataW.trod_int Try.underlying3 t2
  simp only [List.cons.injEq, and_true] at e0 e1 e2
  subst e0 e1 e2
  exact ⟨⟨n0, n1, n2⟩, rfl, I64.of w1, I64.of w2⟩
end Go.Proofs.Ytjidfcogcgaclaa
