/-
  What is proved here: what a band, what is held, a point and a list of points that come in as arguments read as. Conditions: none.
-/
import Derived.Test.YtjidfcogcgaclaaBandStep
import Derived.Test.YtjidfcogcgaclaaPointKit
namespace Go.Proofs.Ytjidfcogcgaclaa
open Go.ChangeShapes Go.WideShapes Go.ChangeAt Go.RowKit Go.Deep Go.Joins

theorem pointC : Try.prog.cellsOf 27 = 2 := by kernel_rfl
theorem bandC : Try.prog.cellsOf 23 = 2 := by kernel_rfl
theorem heldC : Try.prog.cellsOf 25 = 3 := by kernel_rfl
theorem pointB : Try.prog.bytesOf 27 = 16 := by kernel_rfl

theorem open_band {H : Type} {enc : TypeId × Value → H} {W : World} {b0 : Nat} {v : Value} {d : DataW H} {p : List MemPlace}
    (hv : Value.okWide Try.prog W .any b0 23 v) (h : DataW.Trod enc Try.prog W 0 (fun _ => true) true 23 v d p) :
    ∃ s : Band, v = .agg #[.int .i64 s.dead, .int .i64 s.quiet] ∧ I64 s.dead ∧ I64 s.quiet := by
  obtain ⟨v0, v1, y0, y1, n, rfl, _, _, t0, t1⟩ := open_agg2 Try.underlying23 (by kernel_rfl) bandC hv h
  obtain ⟨n0, e0, _, w0⟩ := DataW.trod_int Try.underlying3 t0
  obtain ⟨n1, e1, _, w1⟩ := DataW.trod_int Try.underlying3 t1
  simp only [List.cons.injEq, and_true] at e0 e1
  subst e0 e1
  exact ⟨⟨n0, n1⟩, rfl, I64.of w0, I64.of w1⟩

theorem open_point {H : Type} {enc : TypeId × Value → H} {W : World} {b0 : Nat} {v : Value} {d : DataW H} {p : List MemPlace}
    (hv : Value.okWide Try.prog W .any b0 27 v) (h : DataW.Trod enc Try.prog W 0 (fun _ => true) true 27 v d p) :
    ∃ s : Point, v = .agg #[.int .i64 s.v, .int .i64 s.t] ∧ I64 s.v ∧ I64 s.t := by
  obtain ⟨v0, v1, y0, y1, n, rfl, _, _, t0, t1⟩ := open_agg2 Try.underlying27 (by kernel_rfl) pointC hv h
  obtain ⟨n0, e0, _, w0⟩ := DataW.trod_int Try.underlying3 t0
  obtain ⟨n1, e1, _, w1⟩ := DataW.trod_int Try.underlying3 t1
  simp only [List.cons.injEq, and_true] at e0 e1
  subst e0 e1
  exact ⟨⟨n0, n1⟩, rfl, I64.of w0, I64.of w1⟩

theorem open_held {H : Type} {enc : TypeId × Value → H} {W : World} {b0 : Nat} {v : Value} {d : DataW H} {p : List MemPlace}
    (hv : Value.okWide Try.prog W .any b0 25 v) (h : DataW.Trod enc Try.prog W 0 (fun _ => true) true 25 v d p) :
    ∃ s : Held, v = .agg #[.bool s.has, .int .i64 s.v, .int .i64 s.t] ∧ I64 s.v ∧ I64 s.t := by
  obtain ⟨v0, v1, v2, y0, y1, y2, n, rfl, _, _, t0, t1, t2⟩ := open_agg3 Try.underlying25 (by kernel_rfl) heldC hv h
  obtain ⟨n0, e0, _⟩ := DataW.trod_bool Try.underlying4 t0
  obtain ⟨n1, e1, _, w1⟩ := DataW.trod_int Try.underlying3 t1
  obtain ⟨n2, e2, _, w2⟩ := DataW.trod_int Try.underlying3 t2
  simp only [List.cons.injEq, and_true] at e0 e1 e2
  subst e0 e1 e2
  exact ⟨⟨n0, n1, n2⟩, rfl, I64.of w1, I64.of w2⟩
theorem open_points {H : Type} {enc : TypeId × Value → H} {W : World} {b0 : Nat} {v : Value} {d : DataW H} {p : List MemPlace}
    (hv : Value.okWide Try.prog W .any b0 33 v) (h : DataW.Trod enc Try.prog W 0 (fun _ => true) true 33 v d p)
    {ts : List TypeId} {ds : List (DataW H)} (hsz : (DataW.weightsEach Try.prog ts ds).all (· ≤ reachBytes) = true) {j : Nat} (hj : ts[j]? = some 33) (hd : ds[j]? = some d) :
    ∃ (A : Option Addr) (cap : Nat) (L : List Point), v = .slice A L.length cap ∧ L.length ≤ cap ∧ cap * 16 ≤ 140737488351232 ∧ PointsAt W A L ∧ ∀ i, i < L.length → (I64 (L.getD i p0).v ∧ I64 (L.getD i p0).t) := by
  obtain ⟨a0, len, cap, rfl⟩ := okWide_slice Try.underlying33 hv
  obtain ⟨fuel, hf⟩ := h
  rcases open_slice_fields Try.underlying33 Try.underlying27 (by kernel_rfl) pointC hf with ⟨hcs, _⟩ | ⟨a, l0, c0, m, D, Pl, hcs, _, hl, _, hm, hx, hi⟩
  · simp only [Value.cells, List.cons.injEq, and_true, Value.slice.injEq] at hcs
    obtain ⟨rfl, rfl, rfl⟩ := hcs
    exact ⟨none, 0, [], rfl, Nat.le_refl _, by omega, fun h => absurd h (by simp), fun i hi => absurd hi (by simp)⟩
  · simp only [Value.cells, List.cons.injEq, and_true, Value.slice.injEq] at hcs
    obtain ⟨rfl, rfl, rfl⟩ := hcs
    simp only [if_true] at hm
    have hcap : cap * 16 ≤ 140737488351232 := by
      simp only [Prod.mk.injEq] at hx
      have := sized_slice hsz hj (hd.trans (by rw [hx.1])) Try.underlying33
      rw [pointB] at this
      simp only [List.length_map, List.length_range] at this
      have e : len + (m - len) = cap := by omega
      rw [e] at this
      unfold reachBytes at this
      omega
    have hex : ∀ i, i < len → ∃ s : Point, (W.cell? (a.add (i * 2 + 0)) = some (.int .i64 s.v) ∧ W.cell? (a.add (i * 2 + 1)) = some (.int .i64 s.t)) ∧ (I64 s.v ∧ I64 s.t) := by
      intro i hil
      obtain ⟨ys, n, _, _, _, hfld⟩ := hi i (by omega)
      obtain ⟨v0, y0, c0, _, t0⟩ := hfld 0 _ rfl
      obtain ⟨v1, y1, c1, _, t1⟩ := hfld 1 _ rfl
      obtain ⟨n0, e0, _, w0⟩ := DataW.trod_int Try.underlying3 t0
      obtain ⟨n1, e1, _, w1⟩ := DataW.trod_int Try.underlying3 t1
      simp only [List.cons.injEq, and_true] at e0 e1
      subst e0 e1
      exact ⟨⟨n0, n1⟩, ⟨c0, c1⟩, I64.of w0, I64.of w1⟩
    haveI : Inhabited Point := ⟨p0⟩
    obtain ⟨S, hS⟩ := choose_lt hex
    refine ⟨some a, cap, (List.range len).map S, by simp, by simp; exact hl, hcap, fun hpos => ?_, fun i hil => ?_⟩
    · simp only [List.length_map, List.length_range] at hpos
      obtain ⟨b, off, spot⟩ := a
      have hspot : spot = none := by simpa [Addr.add] using World.cell?_spot (hS 0 hpos).1.1
      subst hspot
      refine ⟨b, off, rfl, World.block_lt_of_cell? _ _ (hS 0 hpos).1.1, fun i hil => ?_⟩
      simp only [List.length_map, List.length_range] at hil
      have := (hS i hil).1
      simp only [Go.WideShapes.add_plain] at this
      have e : ((List.range len).map S).getD i p0 = S i := by simp [hil]
      rw [e]
      simpa [Nat.add_assoc] using this
    · simp only [List.length_map, List.length_range] at hil
      have e : ((List.range len).map S).getD i p0 = S i := by simp [hil]
      rw [e]
      exact (hS i hil).2


end Go.Proofs.Ytjidfcogcgaclaa
