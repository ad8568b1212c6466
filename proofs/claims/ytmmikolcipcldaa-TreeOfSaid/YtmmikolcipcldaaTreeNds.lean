/-
  What is proved here: pages that are given by number, as they read in memory; keys taken one by one (chapter 15). Conditions: each theorem's own.
-/
import Derived.Test.YtmmikolcipcldaaTreeBd
namespace Go.Proofs.Ytmmikolcipcldaa
open Go.RowKit Go.Deep

/-- a slice of numbers, as it reads. -/
def IsAt (W : World) (v : Value) (xs : List Int) : Prop :=
  ∃ A c, v = .slice A xs.length c ∧ xs.length ≤ c ∧ (0 < xs.length → ∃ g o, A = some ⟨g, o, none⟩ ∧ g < W.heap.size ∧ ∀ i, i < xs.length → W.cell? ⟨g, o + i, none⟩ = some (.int .i64 (xs.getD i 0)))
theorem IsAt.on {B : Nat} {W W' : World} {v : Value} {xs : List Int} (h : IsAt W v xs) (hb : Below B W W') (hB : W.heap.size ≤ B) : IsAt W' v xs := by
  obtain ⟨A, c, h1, h2, h3⟩ := h
  refine ⟨A, c, h1, h2, fun hp => ?_⟩
  obtain ⟨g, o, h4, h5, h6⟩ := h3 hp
  refine ⟨g, o, h4, Nat.lt_of_lt_of_le h5 hb.size, fun i hi => ?_⟩
  rw [hb.cell (p := ⟨g, _, none⟩) (Nat.lt_of_lt_of_le h5 hB)]
  exact h6 i hi
/-- a page that is given, in memory. -/
structure NdAt (W : World) (kv vv cv : Value) (n : NdR) : Prop where
  ks : KsAt W kv n.ks
  vs : IsAt W vv n.vs
  kids : IsAt W cv n.kids
theorem NdAt.on {B : Nat} {W W' : World} {kv vv cv : Value} {n : NdR} (h : NdAt W kv vv cv n) (hb : Below B W W') (hB : W.heap.size ≤ B) : NdAt W' kv vv cv n := ⟨h.ks.on hb hB, h.vs.on hb hB, h.kids.on hb hB⟩
/-- a list of them. -/
def NdsAt (W : World) (v : Value) (l : List NdR) : Prop :=
  ∃ A c, v = .slice A l.length c ∧ l.length ≤ c ∧ (0 < l.length → ∃ g o, A = some ⟨g, o, none⟩ ∧ g < W.heap.size ∧ ∀ i, i < l.length →
    ∃ kv vv cv, W.cell? ⟨g, o + i * 3, none⟩ = some kv ∧ W.cell? ⟨g, o + i * 3 + 1, none⟩ = some vv ∧ W.cell? ⟨g, o + i * 3 + 2, none⟩ = some cv ∧ NdAt W kv vv cv (l.getD i n0))
theorem NdsAt.on {B : Nat} {W W' : World} {v : Value} {l : List NdR} (h : NdsAt W v l) (hb : Below B W W') (hB : W.heap.size ≤ B) : NdsAt W' v l := by
  obtain ⟨A, c, h1, h2, h3⟩ := h
  refine ⟨A, c, h1, h2, fun hp => ?_⟩
  obtain ⟨g, o, h4, h5, h6⟩ := h3 hp
  refine ⟨g, o, h4, Nat.lt_of_lt_of_le h5 hb.size, fun i hi => ?_⟩
  obtain ⟨kv, vv, cv, a, b, c', hn⟩ := h6 i hi
  have e := fun j => hb.cell (p := ⟨g, j, none⟩) (Nat.lt_of_lt_of_le h5 hB)
  exact ⟨kv, vv, cv, by rw [e]; exact a, by rw [e]; exact b, by rw [e]; exact c', hn.on hb hB⟩
/-- the pages' sizes are those of lists. -/
def NdsFit (l : List NdR) : Prop := l.length ≤ 1000000 ∧ ∀ n ∈ l, n.ks.length ≤ 140737488351232 ∧ n.vs.length ≤ 140737488351232 ∧ n.kids.length ≤ 140737488351232
/-- keys taken one by one. -/
def BdS.takes (S : BdS) (es : List En) : BdS := es.foldl (fun S e => S.take e.1) S
theorem BdS.takes_app (S : BdS) (a b : List En) : S.takes (a ++ b) = (S.takes a).takes b := List.foldl_append ..
theorem BdS.takes_wrong : ∀ (es : List En) (S : BdS), S.wrong = true → (S.takes es).wrong = true
  | [], _, h => h
  | x :: es, S, h => BdS.takes_wrong es (S.take x.1) (by show (S.wrong || _) = true; rw [h]; rfl)
theorem BdS.takes_same : ∀ (es : List En) (S : BdS), (S.takes es).seen = S.seen ∧ (S.takes es).leaves = S.leaves ∧ (S.takes es).count = S.count + es.length
  | [], S => ⟨rfl, rfl, rfl⟩
  | x :: es, S => by
    have h := BdS.takes_same es (S.take x.1)
    exact ⟨h.1, h.2.1, by rw [show S.takes (x :: es) = (S.take x.1).takes es from rfl, h.2.2]; show S.count + 1 + es.length = S.count + (es.length + 1); omega⟩
/-- what comes behind does not hang on what was seen. -/
def BdS.with_ (S : BdS) (seen : List Bool) (leaves : Nat) : BdS := { S with seen := seen, leaves := leaves }
theorem BdS.takes_with : ∀ (es : List En) (S : BdS) (seen : List Bool) (leaves : Nat), (S.with_ seen leaves).takes es = (S.takes es).with_ seen leaves
  | [], _, _, _ => rfl
  | x :: es, S, seen, leaves => BdS.takes_with es (S.take x.1) seen leaves
/-- keys that rise from a last one on are taken without fault. -/
theorem BdS.takes_up : ∀ (es : List En) (S : BdS), S.wrong = false → ((S.takes es).wrong = false ↔ Up es ∧ (0 < S.count → ∀ e ∈ es, bel S.last e.1 = true))
  | [], S, h => ⟨fun _ => ⟨List.Pairwise.nil, fun _ e he => (by cases he)⟩, fun _ => h⟩
  | x :: es, S, h => by
    show ((S.take x.1).takes es).wrong = false ↔ _
    cases hw : (S.take x.1).wrong with
    | true =>
      have h1 := BdS.takes_wrong es _ hw
      rw [h1]
      refine ⟨fun h => (by cases h), fun ⟨_, h2⟩ => ?_⟩
      have hw' : (S.wrong || (decide (0 < S.count) && !bel S.last x.1)) = true := hw
      rw [h, Bool.false_or, Bool.and_eq_true, decide_eq_true_eq] at hw'
      have := h2 hw'.1 x (by simp)
      rw [this] at hw'
      exact absurd hw'.2 (by simp)
    | false =>
      rw [BdS.takes_up es _ hw]
      have hw' : (S.wrong || (decide (0 < S.count) && !bel S.last x.1)) = false := hw
      rw [h, Bool.false_or, Bool.and_eq_false_iff, decide_eq_false_iff_not] at hw'
      constructor
      · rintro ⟨h1, h2⟩
        have h3 := h2 (Nat.succ_pos _)
        refine ⟨List.pairwise_cons.2 ⟨h3, h1⟩, fun hc e he => ?_⟩
        have hx : bel S.last x.1 = true := by
          rcases hw' with h' | h'
          · exact absurd hc h'
          · simpa using h'
        rcases List.mem_cons.1 he with rfl | he
        · exact hx
        · exact bel_trans hx (h3 e he)
      · rintro ⟨h1, h2⟩
        exact ⟨(List.pairwise_cons.1 h1).2, fun _ => (List.pairwise_cons.1 h1).1⟩
end Go.Proofs.Ytmmikolcipcldaa
