/-
  What is proved here: what a list of pages that comes in as an argument reads as (chapter 15). Conditions: none.
-/
import Derived.Test.YtmmikolcipcldaaTreeCopied
import Derived.Test.YtmmikolcipcldaaTreeOpen
namespace Go.Proofs.Ytmmikolcipcldaa
open Go.ChangeShapes Go.WideShapes Go.ChangeAt Go.RowKit Go.Deep Go.Joins

section
variable {H : Type} {enc : TypeId × Value → H} {W : World}
theorem each_one {P : Program} {t : TypeId} {d : DataW H} (h : ∀ n ∈ d.weights P t, n ≤ reachBytes) : (DataW.weightsEach P [t] [d]).all (· ≤ reachBytes) = true := by
  rw [List.all_eq_true]
  intro n hn
  simp only [DataW.weightsEach, List.append_nil] at hn
  exact decide_eq_true (h n hn)
theorem weightsAll_in {P : Program} {e : TypeId} : ∀ {l : List (DataW H)} {d : DataW H}, d ∈ l → ∀ n ∈ d.weights P e, n ∈ DataW.weightsAll P e l
  | d' :: r, d, hd, n, hn => by
    simp only [DataW.weightsAll, List.mem_append]
    rcases List.mem_cons.1 hd with rfl | h
    · exact Or.inl hn
    · exact Or.inr (weightsAll_in h n hn)
set_option maxRecDepth 100000 in
theorem keys_trod {fuel : Nat} {v : Value} {x : DataW H × List MemPlace} (hf : DataW.trod enc Try.prog W 0 (fun _ => true) true fuel 39 [v] = some x) (hw : ∀ n ∈ x.1.weights Try.prog 39, n ≤ reachBytes) :
    ∃ L : List Ky, KsAt W v L ∧ L.length * 16 ≤ 140737488351232 := by
  rcases open_slice_fields Try.underlying39 Try.underlying24 (by kernel_rfl) keyC hf with ⟨hcs, _⟩ | ⟨a, len, cap, m, D, Pl, hcs, _, hl, _, hm, hx, hi⟩
  · simp only [List.cons.injEq, and_true] at hcs
    subst hcs
    exact ⟨[], ⟨none, 0, rfl, Nat.le_refl _, fun h => absurd h (by simp)⟩, by simp⟩
  · simp only [List.cons.injEq, and_true] at hcs
    subst hcs
    simp only [if_true] at hm
    have hcap : cap * 16 ≤ 140737488351232 := by
      have hx1 : x.1 = .slice ((List.range len).map D) ((List.range (m - len)).map fun j => D (len + j)) := by rw [hx]
      rw [hx1] at hw
      have := sized_slice (each_one hw) (j := 0) rfl rfl Try.underlying39
      rw [keyB] at this
      simp only [List.length_map, List.length_range] at this
      have e : len + (m - len) = cap := by omega
      rw [e] at this
      unfold reachBytes at this
      omega
    have hex : ∀ i, i < len → ∃ s : Ky, W.cell? (a.add (i * 2 + 0)) = some (.int .i64 s.t) ∧ W.cell? (a.add (i * 2 + 1)) = some (.int .i64 s.s) := by
      intro i hil
      obtain ⟨ys, n, _, _, _, hfld⟩ := hi i (by omega)
      obtain ⟨v0, y0, c0, _, t0⟩ := hfld 0 _ rfl
      obtain ⟨v1, y1, c1, _, t1⟩ := hfld 1 _ rfl
      obtain ⟨n0, e0, _, w0⟩ := DataW.trod_int Try.underlying3 t0
      obtain ⟨n1, e1, _, w1⟩ := DataW.trod_int Try.underlying3 t1
      simp only [List.cons.injEq, and_true] at e0 e1
      subst e0 e1
      exact ⟨⟨n0, n1⟩, c0, c1⟩
    haveI : Inhabited Ky := ⟨k0⟩
    obtain ⟨S, hS⟩ := choose_lt hex
    refine ⟨(List.range len).map S, ⟨some a, cap, by simp, by simp; exact hl, fun hpos => ?_⟩, by simp; omega⟩
    simp only [List.length_map, List.length_range] at hpos
    obtain ⟨b, off, spot⟩ := a
    have hspot : spot = none := by simpa [Addr.add] using World.cell?_spot (hS 0 hpos).1
    subst hspot
    refine ⟨b, off, rfl, World.block_lt_of_cell? _ _ (hS 0 hpos).1, fun i hil => ?_⟩
    simp only [List.length_map, List.length_range] at hil
    have := hS i hil
    simp only [Go.WideShapes.add_plain] at this
    have e : ((List.range len).map S).getD i k0 = S i := by simp [hil]
    rw [e]
    simpa [Nat.add_assoc] using this
set_option maxRecDepth 100000 in
theorem ints_trod {fuel : Nat} {v : Value} {x : DataW H × List MemPlace} (hf : DataW.trod enc Try.prog W 0 (fun _ => true) true fuel 58 [v] = some x) (hw : ∀ n ∈ x.1.weights Try.prog 58, n ≤ reachBytes) :
    ∃ L : List Int, IsAt W v L ∧ L.length * 8 ≤ 140737488351232 := by
  rcases open_ints Try.underlying58 Try.underlying3 (by kernel_rfl) hf with ⟨hcs, _⟩ | ⟨a, len, cap, zs, hcs, _, hl, hm, hz, hx, hcell, hwf⟩
  · simp only [List.cons.injEq, and_true] at hcs
    subst hcs
    exact ⟨[], ⟨none, 0, rfl, Nat.le_refl _, fun h => absurd h (by simp)⟩, by simp⟩
  · simp only [List.cons.injEq, and_true] at hcs
    subst hcs
    simp only [if_true] at hz
    have hcap : cap * 8 ≤ 140737488351232 := by
      have hx1 := congrArg Prod.fst hx
      simp only at hx1
      rw [hx1] at hw
      have := sized_slice (each_one hw) (j := 0) rfl rfl Try.underlying58
      rw [show Try.prog.bytesOf 3 = 8 by kernel_rfl] at this
      simp only [lits, List.length_map, List.length_take, List.length_drop, hz] at this
      have e : min len cap + (cap - len) = cap := by omega
      rw [e] at this
      unfold reachBytes at this
      omega
    have hlt : (zs.take len).length = len := by simp; omega
    refine ⟨zs.take len, ⟨some a, cap, by rw [hlt], by rw [hlt]; exact hl, fun hpos => ?_⟩, by rw [hlt]; omega⟩
    rw [hlt] at hpos
    obtain ⟨b, off, rfl, hc'⟩ := ints_at hcell (by omega)
    refine ⟨b, off, rfl, World.block_lt_of_cell? _ _ (hc' 0 (by omega)), fun i hi => ?_⟩
    rw [hlt] at hi
    rw [hc' i (by omega)]
    have e : (zs.take len).getD i 0 = zs.getD i 0 := by simp [hi]
    rw [e]
theorem nodeC : Try.prog.cellsOf 60 = 3 := by kernel_rfl
set_option maxRecDepth 100000 in
theorem open_nodes {b0 : Nat} {v : Value} {d : DataW H} {p : List MemPlace}
    (hv : Value.okWide Try.prog W .any b0 51 v) (h : DataW.Trod enc Try.prog W 0 (fun _ => true) true 51 v d p)
    {ts : List TypeId} {ds : List (DataW H)} (hsz : (DataW.weightsEach Try.prog ts ds).all (· ≤ reachBytes) = true) {j : Nat} (hj : ts[j]? = some 51) (hd : ds[j]? = some d) :
    ∃ L : List NdR, NdsAt W v L ∧ NFit L ∧ L.length ≤ 9223372036854775807 := by
  obtain ⟨a0, len, cap, rfl⟩ := okWide_slice Try.underlying51 hv
  obtain ⟨fuel, hf⟩ := h
  rcases open_slice_fields Try.underlying51 Try.underlying60 (by kernel_rfl) nodeC hf with ⟨hcs, _⟩ | ⟨a, l0, c0, m, D, Pl, hcs, _, hl, hm0, hm, hx, hi⟩
  · simp only [Value.cells, List.cons.injEq, and_true, Value.slice.injEq] at hcs
    obtain ⟨rfl, rfl, rfl⟩ := hcs
    exact ⟨[], ⟨none, 0, rfl, Nat.le_refl _, fun h => absurd h (by simp)⟩, fun n hn => absurd hn (by simp), by simp⟩
  · simp only [Value.cells, List.cons.injEq, and_true, Value.slice.injEq] at hcs
    obtain ⟨rfl, rfl, rfl⟩ := hcs
    simp only [if_true] at hm
    simp only [Prod.mk.injEq] at hx
    have hwt : ∀ i, i < len → ∀ n ∈ (D i).weights Try.prog 60, n ≤ reachBytes := fun i hil n hn => by
      refine of_decide_eq_true (List.all_eq_true.1 hsz _ (DataW.weights_mem_each hj (hd.trans (by rw [hx.1])) _ ?_))
      simp only [DataW.weights, Try.underlying51, List.mem_cons, List.mem_append]
      exact .inr (.inl (weightsAll_in (List.mem_map.2 ⟨i, List.mem_range.2 hil, rfl⟩) n hn))
    have hex : ∀ i, i < len → ∃ s : NdR, ∃ kv vv cv, W.cell? (a.add (i * 3 + 0)) = some kv ∧ W.cell? (a.add (i * 3 + 1)) = some vv ∧ W.cell? (a.add (i * 3 + 2)) = some cv ∧ NdAt W kv vv cv s ∧ s.ks.length * 16 ≤ 140737488351232 ∧ s.vs.length * 8 ≤ 140737488351232 ∧ s.kids.length * 8 ≤ 140737488351232 := by
      intro i hil
      obtain ⟨ys, n, hD, _, _, hfld⟩ := hi i (by omega)
      have hw := hwt i hil
      rw [hD] at hw
      simp only [DataW.weights, Try.underlying60] at hw
      have key : ∀ (q : Nat) (t : TypeId) (y : DataW H × List MemPlace), ((Try.prog.fieldsOf 60).toList.map (·.type))[q]? = some t → ys[q]? = some y → ∀ k ∈ y.1.weights Try.prog t, k ≤ reachBytes := fun q t y h1 h2 k hk => by
        refine hw k (DataW.weights_mem_each (j := q) (t := t) (d := y.1) ?_ (by rw [List.getElem?_map, h2]; rfl) k hk)
        exact h1
      obtain ⟨v0, y0, c0, e0, t0⟩ := hfld 0 _ rfl
      obtain ⟨v1, y1, c1, e1, t1⟩ := hfld 1 _ rfl
      obtain ⟨v2, y2, c2, e2, t2⟩ := hfld 2 _ rfl
      obtain ⟨K, hK, hK2⟩ := keys_trod t0 (key 0 _ y0 rfl e0)
      obtain ⟨V, hV, hV2⟩ := ints_trod t1 (key 1 _ y1 rfl e1)
      obtain ⟨C, hC, hC2⟩ := ints_trod t2 (key 2 _ y2 rfl e2)
      exact ⟨⟨K, V, C⟩, v0, v1, v2, c0, c1, c2, ⟨hK, hV, hC⟩, hK2, hV2, hC2⟩
    haveI : Inhabited NdR := ⟨n0⟩
    obtain ⟨S, hS⟩ := choose_lt hex
    refine ⟨(List.range len).map S, ⟨some a, cap, by simp, by simp; exact hl, fun hpos => ?_⟩, fun n hn => ?_, by simp; unfold maxLen at hm0; omega⟩
    · simp only [List.length_map, List.length_range] at hpos
      obtain ⟨b, off, spot⟩ := a
      obtain ⟨kv, _, _, h0, _⟩ := hS 0 hpos
      have hspot : spot = none := by simpa [Addr.add] using World.cell?_spot h0
      subst hspot
      refine ⟨b, off, rfl, World.block_lt_of_cell? _ _ h0, fun i hil => ?_⟩
      simp only [List.length_map, List.length_range] at hil
      obtain ⟨kv, vv, cv, c1, c2, c3, hn, _⟩ := hS i hil
      simp only [Go.WideShapes.add_plain] at c1 c2 c3
      have e : ((List.range len).map S).getD i n0 = S i := by simp [hil]
      rw [e]
      exact ⟨kv, vv, cv, by simpa using c1, by simpa [Nat.add_assoc] using c2, by simpa [Nat.add_assoc] using c3, hn⟩
    · obtain ⟨i, hi', rfl⟩ := List.mem_map.1 hn
      obtain ⟨_, _, _, _, _, _, _, h1⟩ := hS i (List.mem_range.1 hi')
      exact h1
end
end Go.Proofs.Ytmmikolcipcldaa
