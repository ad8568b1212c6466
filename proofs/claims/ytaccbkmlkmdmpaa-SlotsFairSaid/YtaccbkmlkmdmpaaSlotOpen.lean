/-
  What is proved here: what a list of slots, and a slot, that come in as arguments read as. Conditions: none.
-/
import Derived.Test.YtaccbkmlkmdmpaaSlotDue
namespace Go.Proofs.Ytaccbkmlkmdmpaa
open Go.ChangeShapes Go.WideShapes Go.ChangeAt Go.RowKit Go.Deep Go.Joins

theorem SlotsAt.below {w w' : World} {A : Option Addr} {L : List Slot} (h : SlotsAt w A L) (hb : Below w.heap.size w w') : SlotsAt w' A L := by
  intro hp
  obtain ⟨b, off, e, hlt, hc⟩ := h hp
  refine ⟨b, off, e, Nat.lt_of_lt_of_le hlt hb.size, fun i hi => ?_⟩
  obtain ⟨c0, c1, c2⟩ := hc i hi
  exact ⟨(hb.cell (p := ⟨b, off + i * 3, none⟩) hlt).trans c0, (hb.cell (p := ⟨b, off + i * 3 + 1, none⟩) hlt).trans c1, (hb.cell (p := ⟨b, off + i * 3 + 2, none⟩) hlt).trans c2⟩
def I64 (n : Int) : Prop := -9223372036854775808 ≤ n ∧ n ≤ 9223372036854775807
theorem I64.of {n : Int} (h : (Lit.int .i64 n).wf = true) : I64 n := by
  simp [Lit.wf, IntKind.min, IntKind.max, IntKind.signed, IntKind.bits] at h
  exact ⟨by omega, by omega⟩
def Slot.Fit (s : Slot) : Prop := I64 s.e ∧ I64 s.n ∧ I64 s.f

instance : Inhabited Slot := ⟨⟨0, 0, 0⟩⟩
theorem slotC : Try.prog.cellsOf 29 = 3 := by kernel_rfl
theorem intC : Try.prog.cellsOf 3 = 1 := by kernel_rfl
theorem slotB : Try.prog.bytesOf 29 = 24 := by kernel_rfl

theorem open_slots {H : Type} {enc : TypeId × Value → H} {W : World} {b0 : Nat} {v : Value} {d : DataW H} {p : List MemPlace}
    (hv : Value.okWide Try.prog W .any b0 22 v) (h : DataW.Trod enc Try.prog W 0 (fun _ => true) true 22 v d p)
    {ts : List TypeId} {ds : List (DataW H)} (hsz : (DataW.weightsEach Try.prog ts ds).all (· ≤ reachBytes) = true) {j : Nat} (hj : ts[j]? = some 22) (hd : ds[j]? = some d) :
    ∃ (A : Option Addr) (cap : Nat) (L : List Slot), v = .slice A L.length cap ∧ L.length ≤ cap ∧ cap * 24 ≤ 140737488351232 ∧ SlotsAt W A L ∧ ∀ i, i < L.length → (L.getD i ⟨0, 0, 0⟩).Fit := by
  obtain ⟨a0, len, cap, rfl⟩ := okWide_slice Try.underlying22 hv
  obtain ⟨fuel, hf⟩ := h
  rcases open_slice_fields Try.underlying22 Try.underlying29 (by kernel_rfl) slotC hf with ⟨hcs, _⟩ | ⟨a, l0, c0, m, D, Pl, hcs, _, hl, _, hm, hx, hi⟩
  · simp only [Value.cells, List.cons.injEq, and_true, Value.slice.injEq] at hcs
    obtain ⟨rfl, rfl, rfl⟩ := hcs
    exact ⟨none, 0, [], rfl, Nat.le_refl _, by omega, fun h => absurd h (by simp), fun i hi => absurd hi (by simp)⟩
  · simp only [Value.cells, List.cons.injEq, and_true, Value.slice.injEq] at hcs
    obtain ⟨rfl, rfl, rfl⟩ := hcs
    simp only [if_true] at hm
    have hcap : cap * 24 ≤ 140737488351232 := by
      simp only [Prod.mk.injEq] at hx
      have := sized_slice hsz hj (hd.trans (by rw [hx.1])) Try.underlying22
      rw [slotB] at this
      simp only [List.length_map, List.length_range] at this
      have e : len + (m - len) = cap := by omega
      rw [e] at this
      unfold reachBytes at this
      omega
    have hex : ∀ i, i < len → ∃ s : Slot, (W.cell? (a.add (i * 3 + 0)) = some (.int .i64 s.e) ∧ W.cell? (a.add (i * 3 + 1)) = some (.int .i64 s.n) ∧ W.cell? (a.add (i * 3 + 2)) = some (.int .i64 s.f)) ∧ s.Fit := by
      intro i hil
      obtain ⟨ys, n, _, _, _, hfld⟩ := hi i (by omega)
      obtain ⟨v0, y0, c0, _, t0⟩ := hfld 0 _ rfl
      obtain ⟨v1, y1, c1, _, t1⟩ := hfld 1 _ rfl
      obtain ⟨v2, y2, c2, _, t2⟩ := hfld 2 _ rfl
      obtain ⟨n0, e0, _, w0⟩ := DataW.trod_int Try.underlying3 t0
      obtain ⟨n1, e1, _, w1⟩ := DataW.trod_int Try.underlying3 t1
      obtain ⟨n2, e2, _, w2⟩ := DataW.trod_int Try.underlying3 t2
      simp only [List.cons.injEq, and_true] at e0 e1 e2
      subst e0 e1 e2
      exact ⟨⟨n0, n1, n2⟩, ⟨c0, c1, c2⟩, I64.of w0, I64.of w1, I64.of w2⟩
    obtain ⟨S, hS⟩ := choose_lt hex
    refine ⟨some a, cap, (List.range len).map S, by simp, by simp; exact hl, hcap, fun hpos => ?_, fun i hil => ?_⟩
    · simp only [List.length_map, List.length_range] at hpos
      obtain ⟨b, off, spot⟩ := a
      have hspot : spot = none := by simpa [Addr.add] using World.cell?_spot (hS 0 hpos).1.1
      subst hspot
      refine ⟨b, off, rfl, World.block_lt_of_cell? _ _ (hS 0 hpos).1.1, fun i hil => ?_⟩
      simp only [List.length_map, List.length_range] at hil
      have := (hS i hil).1
      simp only [Go.WideShapes.add_plain] at this
      have e : ((List.range len).map S).getD i ⟨0, 0, 0⟩ = S i := by simp [hil]
      rw [e]
      simpa [Nat.add_assoc] using this
    · simp only [List.length_map, List.length_range] at hil
      have e : ((List.range len).map S).getD i ⟨0, 0, 0⟩ = S i := by simp [hil]
      rw [e]
      exact (hS i hil).2

theorem open_slot {H : Type} {enc : TypeId × Value → H} {W : World} {b0 : Nat} {v : Value} {d : DataW H} {p : List MemPlace}
    (hv : Value.okWide Try.prog W .any b0 29 v) (h : DataW.Trod enc Try.prog W 0 (fun _ => true) true 29 v d p) :
    ∃ s : Slot, v = .agg #[.int .i64 s.e, .int .i64 s.n, .int .i64 s.f] ∧ s.Fit := by
  obtain ⟨v0, v1, v2, y0, y1, y2, n, rfl, _, _, t0, t1, t2⟩ := open_agg3 Try.underlying29 (by kernel_rfl) slotC hv h
  obtain ⟨n0, e0, _, w0⟩ := DataW.trod_int Try.underlying3 t0
  obtain ⟨n1, e1, _, w1⟩ := DataW.trod_int Try.underlying3 t1
  obtain ⟨n2, e2, _, w2⟩ := DataW.trod_int Try.underlying3 t2
  simp only [List.cons.injEq, and_true] at e0 e1 e2
  subst e0 e1 e2
  exact ⟨⟨n0, n1, n2⟩, rfl, I64.of w0, I64.of w1, I64.of w2⟩
end Go.Proofs.Ytaccbkmlkmdmpaa
