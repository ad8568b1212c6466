/-
  What is proved here: a slice of numbers that comes in as an argument reads as a list, over any program. Conditions: none beyond each theorem's own.
-/
import Derived.Test.YtmmikolcipcldaaCore
namespace Go.Proofs.Ytmmikolcipcldaa
open Go.ChangeShapes Go.WideShapes Go.ChangeAt Go.RowKit Go.Deep

/-- A slice value reads as these numbers. -/
def IntsAt (k : IntKind) (w : World) (A : Option Addr) (L : List Int) : Prop :=
  0 < L.length → ∃ b off, A = some ⟨b, off, none⟩ ∧ b < w.heap.size ∧ ∀ i, i < L.length → w.cell? ⟨b, off + i, none⟩ = some (.int k (L.getD i 0))
theorem IntsAt.below {k : IntKind} {w w' : World} {B : Nat} {A : Option Addr} {L : List Int} (h : IntsAt k w A L) (hb : Below B w w') (hB : w.heap.size ≤ B) : IntsAt k w' A L := by
  intro hp
  obtain ⟨b, off, e, hlt, hc⟩ := h hp
  exact ⟨b, off, e, Nat.lt_of_lt_of_le hlt hb.size, fun i hi => (hb.cell (p := ⟨b, off + i, none⟩) (Nat.lt_of_lt_of_le hlt hB)).trans (hc i hi)⟩
/-- read in an older world, kept since. -/
theorem IntsAt.cells {k : IntKind} {w w' : World} {A : Option Addr} {L : List Int} (h : IntsAt k w A L) (hb : Below w.heap.size w w') {i : Nat} (hi : i < L.length) :
    ∃ b off, A = some ⟨b, off, none⟩ ∧ b < w.heap.size ∧ w'.cell? ⟨b, off + i, none⟩ = some (.int k (L.getD i 0)) := by
  obtain ⟨b, off, e, hlt, hc⟩ := h (by omega)
  exact ⟨b, off, e, hlt, (hb.cell (p := ⟨b, off + i, none⟩) hlt).trans (hc i hi)⟩

section
variable {H : Type} {enc : TypeId × Value → H} {P : Program} {w : World}
theorem open_ints_at {t e : TypeId} {k : IntKind} {n b0 : Nat} {v : Value} {d : DataW H} {p : List MemPlace} (ht : P.underlying t = some (.slice e)) (he : P.underlying e = some (.int k)) (hc : P.cellsOf e = 1) (hn : P.bytesOf e = n)
    (hv : Value.okWide P w .any b0 t v) (h : DataW.Trod enc P w 0 (fun _ => true) true t v d p)
    {ts : List TypeId} {ds : List (DataW H)} (hsz : (DataW.weightsEach P ts ds).all (· ≤ reachBytes) = true) {j : Nat} (hj : ts[j]? = some t) (hd : ds[j]? = some d) :
    ∃ (A : Option Addr) (cap : Nat) (L : List Int), v = .slice A L.length cap ∧ L.length ≤ cap ∧ cap * n ≤ 140737488351232 ∧ IntsAt k w A L ∧ ∀ x ∈ L, (Lit.int k x).wf = true := by
  obtain ⟨a0, len, cap, rfl⟩ := okWide_slice ht hv
  obtain ⟨fuel, hf⟩ := h
  rcases open_ints ht he hc hf with ⟨hcs, _⟩ | ⟨a, l0, c0, zs, hcs, _, hl, hm, hz, hx, hcell, hwf⟩
  · simp only [Value.cells, List.cons.injEq, and_true, Value.slice.injEq] at hcs
    obtain ⟨rfl, rfl, rfl⟩ := hcs
    exact ⟨none, 0, [], rfl, Nat.le_refl _, by omega, fun h => absurd h (by simp), fun x hx => absurd hx (by simp)⟩
  · simp only [Value.cells, List.cons.injEq, and_true, Value.slice.injEq] at hcs
    obtain ⟨rfl, rfl, rfl⟩ := hcs
    simp only [if_true] at hz
    have hcap : cap * n ≤ 140737488351232 := by
      simp only [Prod.mk.injEq] at hx
      have := sized_slice hsz hj (hd.trans (by rw [hx.1])) ht
      rw [hn] at this
      simp only [lits, List.length_map, List.length_take, List.length_drop, hz] at this
      have e : min len cap + (cap - len) = cap := by omega
      rw [e] at this
      unfold reachBytes at this
      omega
    have hlt : (zs.take len).length = len := by simp; omega
    refine ⟨some a, cap, zs.take len, by rw [hlt], by rw [hlt]; exact hl, hcap, fun hpos => ?_, fun x hx => hwf x (List.mem_of_mem_take hx)⟩
    rw [hlt] at hpos
    obtain ⟨b, off, rfl, hc'⟩ := ints_at hcell (by omega)
    refine ⟨b, off, rfl, World.block_lt_of_cell? _ _ (hc' 0 (by omega)), fun i hi => ?_⟩
    rw [hlt] at hi
    rw [hc' i (by omega)]
    have e : (zs.take len).getD i 0 = zs.getD i 0 := by simp [hi]
    rw [e]
end
end Go.Proofs.Ytmmikolcipcldaa
