/-
  What is proved here: what a key and a list of keys that come in as arguments read as (chapter 15). Conditions: none.
-/
import Derived.Test.YtmmikolcipcldaaTreeFill
namespace Go.Proofs.Ytmmikolcipcldaa
open Go.ChangeShapes Go.WideShapes Go.ChangeAt Go.RowKit Go.Deep Go.Joins

theorem keyC : Try.prog.cellsOf 24 = 2 := by kernel_rfl
theorem keyB : Try.prog.bytesOf 24 = 16 := by kernel_rfl
def I64 (n : Int) : Prop := -9223372036854775808 ≤ n ∧ n ≤ 9223372036854775807
theorem I64.of {n : Int} (h : (Lit.int .i64 n).wf = true) : I64 n := by
  simp [Lit.wf, IntKind.min, IntKind.max, IntKind.signed, IntKind.bits] at h
  exact ⟨by omega, by omega⟩
/-- both numbers of a key are ints. -/
def KyOk (k : Ky) : Prop := I64 k.t ∧ I64 k.s
set_option maxRecDepth 100000 in
theorem open_key {H : Type} {enc : TypeId × Value → H} {W : World} {b0 : Nat} {v : Value} {d : DataW H} {p : List MemPlace}
    (hv : Value.okWide Try.prog W .any b0 24 v) (h : DataW.Trod enc Try.prog W 0 (fun _ => true) true 24 v d p) :
    ∃ k : Ky, v = .agg #[.int .i64 k.t, .int .i64 k.s] ∧ KyOk k := by
  obtain ⟨v0, v1, y0, y1, n, rfl, _, _, t0, t1⟩ := open_agg2 Try.underlying24 (by kernel_rfl) keyC hv h
  obtain ⟨n0, e0, _, w0⟩ := DataW.trod_int Try.underlying3 t0
  obtain ⟨n1, e1, _, w1⟩ := DataW.trod_int Try.underlying3 t1
  simp only [List.cons.injEq, and_true] at e0 e1
  subst e0 e1
  exact ⟨⟨n0, n1⟩, rfl, I64.of w0, I64.of w1⟩
set_option maxRecDepth 100000 in
theorem open_keys {H : Type} {enc : TypeId × Value → H} {W : World} {b0 : Nat} {v : Value} {d : DataW H} {p : List MemPlace}
    (hv : Value.okWide Try.prog W .any b0 39 v) (h : DataW.Trod enc Try.prog W 0 (fun _ => true) true 39 v d p)
    {ts : List TypeId} {ds : List (DataW H)} (hsz : (DataW.weightsEach Try.prog ts ds).all (· ≤ reachBytes) = true) {j : Nat} (hj : ts[j]? = some 39) (hd : ds[j]? = some d) :
    ∃ L : List Ky, KsAt W v L ∧ L.length ≤ 140737488351232 ∧ ∀ i, i < L.length → KyOk (L.getD i k0) := by
  obtain ⟨a0, len, cap, rfl⟩ := okWide_slice Try.underlying39 hv
  obtain ⟨fuel, hf⟩ := h
  rcases open_slice_fields Try.underlying39 Try.underlying24 (by kernel_rfl) keyC hf with ⟨hcs, _⟩ | ⟨a, l0, c0, m, D, Pl, hcs, _, hl, _, hm, hx, hi⟩
  · simp only [Value.cells, List.cons.injEq, and_true, Value.slice.injEq] at hcs
    obtain ⟨rfl, rfl, rfl⟩ := hcs
    exact ⟨[], ⟨none, 0, rfl, Nat.le_refl _, fun h => absurd h (by simp)⟩, by simp, fun i hi => absurd hi (by simp)⟩
  · simp only [Value.cells, List.cons.injEq, and_true, Value.slice.injEq] at hcs
    obtain ⟨rfl, rfl, rfl⟩ := hcs
    simp only [if_true] at hm
    have hcap : cap * 16 ≤ 140737488351232 := by
      simp only [Prod.mk.injEq] at hx
      have := sized_slice hsz hj (hd.trans (by rw [hx.1])) Try.underlying39
      rw [keyB] at this
      simp only [List.length_map, List.length_range] at this
      have e : len + (m - len) = cap := by omega
      rw [e] at this
      unfold reachBytes at this
      omega
    have hex : ∀ i, i < len → ∃ s : Ky, (W.cell? (a.add (i * 2 + 0)) = some (.int .i64 s.t) ∧ W.cell? (a.add (i * 2 + 1)) = some (.int .i64 s.s)) ∧ KyOk s := by
      intro i hil
      obtain ⟨ys, n, _, _, _, hfld⟩ := hi i (by omega)
      obtain ⟨v0, y0, c0, _, t0⟩ := hfld 0 _ rfl
      obtain ⟨v1, y1, c1, _, t1⟩ := hfld 1 _ rfl
      obtain ⟨n0, e0, _, w0⟩ := DataW.trod_int Try.underlying3 t0
      obtain ⟨n1, e1, _, w1⟩ := DataW.trod_int Try.underlying3 t1
      simp only [List.cons.injEq, and_true] at e0 e1
      subst e0 e1
      exact ⟨⟨n0, n1⟩, ⟨c0, c1⟩, I64.of w0, I64.of w1⟩
    haveI : Inhabited Ky := ⟨k0⟩
    obtain ⟨S, hS⟩ := choose_lt hex
    refine ⟨(List.range len).map S, ⟨some a, cap, by simp, by simp; exact hl, fun hpos => ?_⟩, by simp; omega, fun i hil => ?_⟩
    · simp only [List.length_map, List.length_range] at hpos
      obtain ⟨b, off, spot⟩ := a
      have hspot : spot = none := by simpa [Addr.add] using World.cell?_spot (hS 0 hpos).1.1
      subst hspot
      refine ⟨b, off, rfl, World.block_lt_of_cell? _ _ (hS 0 hpos).1.1, fun i hil => ?_⟩
      simp only [List.length_map, List.length_range] at hil
      have := (hS i hil).1
      simp only [Go.WideShapes.add_plain] at this
      have e : ((List.range len).map S).getD i k0 = S i := by simp [hil]
      rw [e]
      simpa [Nat.add_assoc] using this
    · simp only [List.length_map, List.length_range] at hil
      have e : ((List.range len).map S).getD i k0 = S i := by simp [hil]
      rw [e]
      exact (hS i hil).2
/-- the keys of a filled tree are of the list. -/
theorem filE_mem {ks : List Ky} : ∀ n, ∀ e ∈ filE ks n, ∃ i, i < n ∧ e.1 = ks.getD i k0 ∧ e.2 = i
  | 0, e, h => by cases h
  | n + 1, e, h => by
    rcases (insE_up (filE_up ks n)).2 e h with rfl | h
    · exact ⟨n, Nat.lt_succ_self _, rfl, rfl⟩
    · obtain ⟨i, h1, h2⟩ := filE_mem n e h
      exact ⟨i, by omega, h2⟩
theorem KyOk.least {k : Ky} (h : KyOk k) : bel k kLeast = false := by
  obtain ⟨⟨a, b⟩, ⟨c, d⟩⟩ := h
  unfold bel
  rw [decide_eq_false_iff_not]
  simp only [kLeast]
  omega
theorem KyOk.great {k : Ky} (h : KyOk k) : bel kGreat k = false := by
  obtain ⟨⟨a, b⟩, ⟨c, d⟩⟩ := h
  unfold bel
  rw [decide_eq_false_iff_not]
  simp only [kGreat]
  omega
theorem Has.gath {n tr d : Nat} {w W : World} {es : List En} (h : Has n w tr d es W) (hd : d ≤ 16) (hl : es.length ≤ 1000000) (a b : Ky) : Calls Try.prog 17 #[.pointer (some ⟨tr, 0, none⟩), .agg a.cells, .agg b.cells] W
    fun e w' => ∃ A c, e = .returned (.slice A (ranged a b es).length c) ∧ (ranged a b es).length ≤ c ∧ EnsAt w' (.slice A (ranged a b es).length c) (ranged a b es) ∧ Has n w tr d es w' ∧ Below W.heap.size W w' := by
  refine (h.gathered hd hl a.t a.s b.t b.s).mono ?_
  rintro e w' ⟨v, rfl, hv, hb⟩
  obtain ⟨A, c, rfl, hc, h0, hA⟩ := hv
  exact ⟨A, c, rfl, hc, ⟨A, c, rfl, hc, h0, hA⟩, h.on hb, hb⟩
end Go.Proofs.Ytmmikolcipcldaa
