/-
  What is proved here: bytes that are lent, and looked at again; how many bytes the second form lets come in (chapter 13). Conditions: each theorem's own.
-/
import Derived.Test.YtjpbmapnagkonaaChkRScan
import Derived.Test.YtjpbmapnagkonaaCore3
namespace Go.Proofs.Ytjpbmapnagkonaa
open Go.ChangeShapes Go.WideShapes Go.ChangeAt Go.RowKit Go.Deep Go.Joins

theorem open_bulk {H : Type} {enc : TypeId × Value → H} {W : World} {A : Option Addr} {n cap : Nat} {d : DataW H} {p : List MemPlace}
    (h : DataW.Trod enc Try.prog W 0 (fun _ => true) true 22 (.slice A n cap) d p) (hup : Rows.uptoBulk d ≤ 1048576) : n ≤ 1048576 := by
  obtain ⟨fuel, hf⟩ := h
  rcases open_ints Try.underlying22 Try.underlying5 (by kernel_rfl) hf with ⟨hcs, _⟩ | ⟨a, l0, c0, zs, hcs, _, hl, _, hz, hx, _⟩
  · simp only [Value.cells, List.cons.injEq, and_true, Value.slice.injEq] at hcs
    omega
  · simp only [Value.cells, List.cons.injEq, and_true, Value.slice.injEq] at hcs
    obtain ⟨rfl, rfl, rfl⟩ := hcs
    simp only [Prod.mk.injEq] at hx
    obtain ⟨rfl, _⟩ := hx
    have h1 := bulk_slice (H := H) (lits .u8 (zs.take n)) (lits .u8 (zs.drop n))
    simp only [lits, List.length_map, List.length_take, List.length_drop, hz, if_true] at h1 hup
    omega
theorem lent_to (A : Option Addr) (n cap : Nat) (L : List Int) (w : World) (hn : L.length = n) (hA : IntsAt .u8 w A L) (hlen : n ≤ 140737488351232) :
    Calls Try.prog 16 #[.slice A n cap] w fun e w' => ∃ g, e = .returned (.slice (some ⟨g, 0, none⟩) n (n + 5)) ∧ w.heap.size ≤ g ∧ IRow .u8 5 w' g (n + 5) (Bytes.lentL L) ∧ Below w.heap.size w w' := by
  subst hn
  exact Bytes.lent_any A cap L w hA (by omega)
theorem kept_to (g n ca cb : Nat) (B : Option Addr) (L : List Int) (w : World) (hn : L.length = n) (hblk : IRow .u8 5 w g (n + 5) (Bytes.lentL L)) (hB : IntsAt .u8 w B L) (hlen : n ≤ 140737488351232) (hca : ca = n + 5) :
    Calls Try.prog 20 #[.slice (some ⟨g, 0, none⟩) n ca, .slice B n cb] w fun e w' => e = .returned (.bool true) ∧ Below w.heap.size w w' := by
  subst hn
  exact Bytes.kept_any g ca B cb L w hblk hB hlen hca

end Go.Proofs.Ytjpbmapnagkonaa
