/-
  What is proved here: a record that comes in (chapter 11). Conditions: each theorem's own.
-/
import Derived.Test.YtognidoohinipaaRecRPut
namespace Go.Proofs.Ytognidoohinipaa
open Go.ChangeShapes Go.WideShapes Go.ChangeAt Go.RowKit Go.Deep Go.Joins

section
variable {H : Type} {enc : TypeId × Value → H} {P : Program} {w : World} {base : Nat} {spare : Nat → Bool} {held : Bool}
/-- A struct by value, each field of one cell: its cells, and how they read. -/
theorem open_agg_fields {r : Reach} {b0 : Nat} {t : TypeId} {fs : Array Field} {v : Value} {d : DataW H} {p : List MemPlace} (hs : P.underlying t = some (.struct fs)) (hone : oneCellFields P fs = true) (hC : P.cellsOf t = fs.size)
    (hv : Value.okWide P w r b0 t v) (h : DataW.Trod enc P w base spare held t v d p) :
    ∃ (cs : Array Value) (n : Nat), v = .agg cs ∧ cs.size = fs.size ∧ ∀ (j : Nat) (f : Field), fs[j]? = some f → ∃ (u : Value) (y : DataW H × List MemPlace), cs[j]? = some u ∧ DataW.trod enc P w base spare held n f.type [u] = some y := by
  obtain ⟨cs, rfl, hsz⟩ := okWide_struct hs hv
  obtain ⟨fuel, hf⟩ := h
  obtain ⟨ys, n, hn, hy, hlen, hyl, hg⟩ := DataW.trod_struct hs hf
  refine ⟨cs, n, rfl, hsz.trans hC, fun j f hj => ?_⟩
  obtain ⟨ho, hk⟩ := hone_of hone j f hj
  have hjl : j < fs.size := (Array.getElem?_eq_some_iff.1 hj).1
  have hjc : j < cs.size := by rw [hsz, hC]; exact hjl
  have h1 := hg j f hj
  rw [ho, hk] at h1
  have e : ((Value.agg cs).cells.toList.drop j).take 1 = [cs[j]] := by
    show (cs.toList.drop j).take 1 = _
    rw [List.drop_eq_getElem_cons (by simpa using hjc)]
    simp
  rw [e] at h1
  have hys : ys[j]? = some (ys[j]'(by omega)) := List.getElem?_eq_getElem (by omega)
  exact ⟨cs[j], _, Array.getElem?_eq_getElem hjc, h1.trans hys⟩
end
theorem I64.of {x : Int} (h : (Lit.int .i64 x).wf = true) : I64 x := by
  simp [Lit.wf, IntKind.min, IntKind.max, IntKind.signed, IntKind.bits] at h
  exact ⟨by omega, by omega⟩
theorem recC : Try.prog.cellsOf 23 = 5 := by kernel_rfl
theorem open_rec {H : Type} {enc : TypeId × Value → H} {W : World} {b0 : Nat} {v : Value} {d : DataW H} {p : List MemPlace}
    (hv : Value.okWide Try.prog W .any b0 23 v) (h : DataW.Trod enc Try.prog W 0 (fun _ => true) true 23 v d p) :
    ∃ r : Rec, v = .agg r.cells ∧ I64 r.k ∧ I64 r.t ∧ I64 r.v ∧ I64 r.i ∧ r.g.size ≤ 9223372036854775807 := by
  obtain ⟨cs, n, rfl, hsz, hf⟩ := open_agg_fields Try.underlying23 (by kernel_rfl) recC hv h
  obtain ⟨v0, y0, g0, t0⟩ := hf 0 _ rfl
  obtain ⟨v1, y1, g1, t1⟩ := hf 1 _ rfl
  obtain ⟨v2, y2, g2, t2⟩ := hf 2 _ rfl
  obtain ⟨v3, y3, g3, t3⟩ := hf 3 _ rfl
  obtain ⟨v4, y4, g4, t4⟩ := hf 4 _ rfl
  obtain ⟨n0, e0, _, w0⟩ := DataW.trod_int Try.underlying3 t0
  obtain ⟨n1, e1, _, w1⟩ := DataW.trod_int Try.underlying3 t1
  obtain ⟨n2, e2, _, w2⟩ := DataW.trod_string Try.underlying9 t2
  obtain ⟨n3, e3, _, w3⟩ := DataW.trod_int Try.underlying3 t3
  obtain ⟨n4, e4, _, w4⟩ := DataW.trod_int Try.underlying3 t4
  simp only [List.cons.injEq, and_true] at e0 e1 e2 e3 e4
  subst e0 e1 e2 e3 e4
  refine ⟨⟨n0, n1, n2, n3, n4⟩, congrArg _ ?_, I64.of w0, I64.of w1, I64.of w3, I64.of w4, ?_⟩
  · apply Array.ext_getElem?
    intro i
    by_cases hi : i < 5
    · have : i = 0 ∨ i = 1 ∨ i = 2 ∨ i = 3 ∨ i = 4 := by omega
      rcases this with h | h | h | h | h <;> subst h <;> assumption
    · have hs6 : cs.size = 5 := hsz
      rw [Array.getElem?_eq_none (by omega), Array.getElem?_eq_none (by show 5 ≤ i; omega)]
  · unfold maxLen at w2; exact w2
theorem reads_own {w : World} {base c : Nat} {A : Option Addr} {L : List Int} (h : OwnG Tr w base 5 1 (.slice A L.length c) L.length (L.map (Value.int .u8))) : Reads .u8 w (.slice A L.length c) L :=
  ⟨A, c, rfl, own_ints h⟩
theorem putR_len {r : Rec} {Q : List Int} {n : Int} (h : putR r = (Q, n)) : Q.length ≤ 42 := by
  unfold putR at h
  by_cases h0 : recErr r = 0
  · rw [if_pos h0] at h
    cases h
    have ht := ok_tag h0
    have h1 : (if tagK r.k then [(r.g.size : Int) % 256] ++ strL r.g else []).length ≤ 17 := by
      split
      · have := ht (by assumption)
        rw [List.length_append, strL_len]
        simp
        omega
      · simp
    have h2 : (if namK r.k then be8 r.i else []).length ≤ 8 := by
      split
      · rw [be8_len]; omega
      · simp
    have h3 : (if r.k = 5 then [] else be8 r.v).length ≤ 8 := by
      split
      · simp
      · rw [be8_len]; omega
    unfold recL
    rw [List.length_append, List.length_append, List.length_append, List.length_append, be8_len, List.length_singleton]
    omega
  · rw [if_neg h0] at h
    cases h
    simp
end Go.Proofs.Ytognidoohinipaa
