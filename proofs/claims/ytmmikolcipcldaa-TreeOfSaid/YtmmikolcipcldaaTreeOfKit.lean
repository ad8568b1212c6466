/-
  What is proved here: what the law TreeOf needs besides: pages that are no tree are refused by both, pages that are a tree's are taken by both; a tree and a list of entries behind writes to other blocks (chapter 15). Conditions: each theorem's own.
-/
import Derived.Test.YtmmikolcipcldaaTreeOpenN
import Derived.Test.YtmmikolcipcldaaTreeWkOf
import Derived.Test.YtmmikolcipcldaaTreeBuild
import Derived.Test.YtmmikolcipcldaaTreeNodes2
import Derived.Test.YtmmikolcipcldaaTreeSpoil
namespace Go.Proofs.Ytmmikolcipcldaa
open Go.RowKit Go.Deep

theorem NdsAt.take {W : World} {l : List NdR} {A : Option Addr} {n c m : Nat} (h : NdsAt W (.slice A n c) l) (hm : m ≤ l.length) : NdsAt W (.slice A m c) (l.take m) := by
  obtain ⟨A', c', h1, h2, h3⟩ := h
  cases h1
  have hl : (l.take m).length = m := by rw [List.length_take]; omega
  refine ⟨A, c, by rw [hl], by omega, fun hp => ?_⟩
  rw [hl] at hp
  obtain ⟨g, o, h4, h5, h6⟩ := h3 (by omega)
  refine ⟨g, o, h4, h5, fun i hi => ?_⟩
  rw [hl] at hi
  have e : (l.take m).getD i n0 = l.getD i n0 := by
    rw [List.getD_eq_getElem?_getD, List.getD_eq_getElem?_getD, List.getElem?_take, if_pos hi]
  rw [e]
  exact h6 i (by omega)
theorem NFit.take {l : List NdR} (h : NFit l) (m : Nat) : NFit (l.take m) := fun n hn => h n (List.mem_of_mem_take hn)
theorem NFit.fit {l : List NdR} (h : NFit l) (hl : l.length ≤ 1000000) : NdsFit l := ⟨hl, fun n hn => by have := h n hn; omega⟩

theorem up_same {es : List En} (h : Up es) {a b : En} (ha : a ∈ es) (hb : b ∈ es) (e : a.1 = b.1) : a = b := by
  induction es with
  | nil => cases ha
  | cons x es ih =>
    obtain ⟨h0, h1⟩ := List.pairwise_cons.1 h
    rcases List.mem_cons.1 ha with ea | ha' <;> rcases List.mem_cons.1 hb with eb | hb'
    · rw [ea, eb]
    · have := h0 b hb'; rw [← ea, e, bel_irrefl] at this; cases this
    · have := h0 a ha'; rw [← eb, e, bel_irrefl] at this; cases this
    · exact ih h1 ha' hb'
/-- each entry of a row that rises is found by its key. -/
theorem up_find {es : List En} (h : Up es) {i : Nat} (hi : i < es.length) : valE (es.getD i e0).1 es = (es.getD i e0).2 ∧ hasE (es.getD i e0).1 es = true := by
  have hm : es.getD i e0 ∈ es := by rw [List.getD_eq_getElem?_getD, List.getElem?_eq_getElem hi, Option.getD_some]; exact List.getElem_mem hi
  refine ⟨?_, by unfold hasE; rw [List.any_eq_true]; exact ⟨_, hm, by simp⟩⟩
  unfold valE
  cases hf : es.find? (fun e => decide (e.1 = (es.getD i e0).1)) with
  | none => exact absurd (List.find?_eq_none.1 hf _ hm) (by simp)
  | some y =>
    have h1 := List.mem_of_find?_eq_some hf
    have h2 : y.1 = (es.getD i e0).1 := by simpa using List.find?_some hf
    rw [up_same h h1 hm h2]
    rfl
section
variable {n tr d : Nat} {w W W' : World} {es : List En}
/-- a tree behind a step that writes blocks below its own. -/
theorem Has.away (h : Has n w tr d es W) {L : List Nat} (k : Touch W W' L) (hL : ∀ x ∈ L, x < n) : Has n W' tr d es W' := by
  obtain ⟨M, h1, h2, h3, h4, root, h5, h6⟩ := h.tree
  have hlow := h.low
  exact ⟨⟨M, h1.far k (fun x hx => by have := hL x hx; omega), Nat.le_trans h2 k.size, h3, h4, root, Blk.touch h5 k (fun hm => by have := hL _ hm; omega), h6⟩, Below.refl _ _, hlow⟩
theorem Has.anew_ (h : Has n w tr d es W) : Has n W tr d es W := ⟨h.tree, Below.refl _ _, h.low⟩
theorem OwnE.away {base : Nat} {v : Value} {L : List Nat} (h : OwnE base W v es) (k : Touch W W' L) (hL : ∀ x ∈ L, x < base) : OwnE base W' v es := by
  obtain ⟨hl, h1 | ⟨g, cap, cur, rfl, hg, hb, h2⟩⟩ := h
  · exact ⟨hl, .inl h1⟩
  · exact ⟨hl, .inr ⟨g, cap, cur, rfl, hg, (k.block g (Blk.lt hb) (fun hm => by have := hL g hm; omega)).trans hb, h2⟩⟩

/-- how many entries pages can have. -/
theorem ofE_facts {l : List NdR} (hd : d ≤ 16) (h : ofE d l = some es) : es.length ≤ 31 * l.length ∧ Up es := by
  unfold ofE at h
  split at h
  · cases h
  · rename_i r hr
    split at h
    · rename_i hc
      cases h
      have h1 := vis_len hd _ _ _ _ _ _ hr (by simp)
      rw [unseen_new] at h1
      exact ⟨by omega, hc.2⟩
    · cases h
/-- refused by both. -/
structure Refused (deg : Int) (l : List NdR) (c : Int) : Prop where
  no : c = 3 ∨ c = 4
  of : ∀ (W : World) (A : Option Addr) (q : Nat), NdsAt W (.slice A l.length q) l → Calls Try.prog 25 #[.int .i64 deg, .slice A l.length q] W fun e w' => e = .returned (.tuple #[.pointer none, .int .i64 c]) ∧ Below W.heap.size W w'
  rof : ∀ (W : World) (A : Option Addr) (q : Nat), NdsAt W (.slice A l.length q) l → Calls Try.prog 24 #[.int .i64 deg, .slice A l.length q] W fun e w' => e = .returned (.tuple #[.slice none 0 0, .int .i64 0, .int .i64 c]) ∧ Below W.heap.size W w'
/-- taken by both. -/
structure Taken (deg : Int) (l : List NdR) (d : Nat) (es : List En) : Prop where
  is : deg = d
  lo : 2 ≤ d
  hi : d ≤ 16
  len : es.length ≤ 9300
  up : Up es
  of : ∀ (W : World) (A : Option Addr) (q : Nat), NdsAt W (.slice A l.length q) l → Calls Try.prog 25 #[.int .i64 deg, .slice A l.length q] W fun e w' => ∃ tr, e = .returned (.tuple #[.pointer (some ⟨tr, 0, none⟩), .int .i64 0]) ∧ Has W.heap.size W tr d es w'
  rof : ∀ (W : World) (A : Option Addr) (q : Nat), NdsAt W (.slice A l.length q) l → Calls Try.prog 24 #[.int .i64 deg, .slice A l.length q] W fun e w' => ∃ A' q' lv, e = .returned (.tuple #[.slice A' es.length q', .int .i64 lv, .int .i64 0]) ∧ OwnE W.heap.size w' (.slice A' es.length q') es ∧ Below W.heap.size W w'

theorem both (deg : Int) (l : List NdR) (hl : l.length ≤ 300) (hf : NdsFit l) : (∃ c, Refused deg l c) ∨ (∃ d es, Taken deg l d es) := by
  by_cases hr : deg < 2 ∨ 16 < deg
  · exact .inl ⟨3, .inl rfl, fun W A q _ => (of_range _ W hr).mono (fun e w' h => ⟨h.1, by rw [h.2]; exact Below.refl _ _⟩), fun W A q _ => (rof_range A l.length q W hr).mono (fun e w' h => ⟨h.1, by rw [← h.2]; exact Below.refl _ _⟩)⟩
  · obtain ⟨d, rfl⟩ : ∃ d : Nat, deg = d := ⟨deg.toNat, by omega⟩
    have hd2 : 2 ≤ d := by omega
    have hd : d ≤ 16 := by omega
    rcases Nat.eq_zero_or_pos l.length with h0 | hpos
    · obtain rfl : l = [] := List.eq_nil_of_length_eq_zero h0
      refine .inr ⟨d, [], rfl, hd2, hd, by simp, List.Pairwise.nil, fun W A q _ => (of_empty A q W hd2 hd).mono ?_, fun W A q _ => (rof_empty A q W hd2 hd).mono ?_⟩
      · rintro e w' ⟨rfl, hw⟩
        exact ⟨_, rfl, Has.new hw (Below.refl _ _) (Nat.le_refl _)⟩
      · rintro e w' ⟨rfl, rfl⟩
        exact ⟨none, 0, 0, rfl, OwnE.nil _ _, Below.refl _ _⟩
    · cases hE : ofE d l with
      | none =>
        refine .inl ⟨4, .inr rfl, fun W A q hN => (of_any hd2 hd hpos hN hf).mono ?_, fun W A q hN => (rof_any hd2 hd hpos (by omega) hN hf).mono ?_⟩
        · rintro e w' (⟨es, tr, h1, _⟩ | ⟨_, rfl, hb⟩)
          · rw [hE] at h1; cases h1
          · exact ⟨rfl, hb⟩
        · rintro e w' ⟨hb, ⟨r, A', q', _, h1, _⟩ | ⟨_, rfl⟩⟩
          · rw [hE] at h1; cases h1
          · exact ⟨rfl, hb⟩
      | some es =>
        obtain ⟨h1, h2⟩ := ofE_facts hd hE
        refine .inr ⟨d, es, rfl, hd2, hd, by omega, h2, fun W A q hN => (of_any hd2 hd hpos hN hf).mono ?_, fun W A q hN => (rof_any hd2 hd hpos (by omega) hN hf).mono ?_⟩
        · rintro e w' (⟨es', tr, h3, rfl, h4⟩ | ⟨h3, _⟩)
          · rw [hE] at h3; cases h3
            exact ⟨tr, rfl, h4⟩
          · rw [hE] at h3; cases h3
        · rintro e w' ⟨hb, ⟨r, A', q', _, h3, rfl, h4⟩ | ⟨h3, _⟩⟩
          · rw [hE] at h3; cases h3
            exact ⟨A', q', r.leaves, rfl, h4, hb⟩
          · rw [hE] at h3; cases h3
/-- the entries that a tree's own pages have. -/
theorem rof_nodes {l : List NdR} {A : Option Addr} {c : Nat} (hd2 : 2 ≤ d) (hd : d ≤ 16) (hu : Up es) (hl : es.length ≤ 30000) (hp : PagesOf d l es) (hN : NdsAt w (.slice A l.length c) l) :
    Calls Try.prog 24 #[.int .i64 d, .slice A l.length c] w fun e w' => ∃ A' c' lv, e = .returned (.tuple #[.slice A' es.length c', .int .i64 lv, .int .i64 0]) ∧ EnsAt w' (.slice A' es.length c') es ∧ Below w.heap.size w w' := by
  rcases Nat.eq_zero_or_pos l.length with h0 | hpos
  · obtain rfl : l = [] := List.eq_nil_of_length_eq_zero h0
    obtain rfl : es = [] := by
      rcases hp.2.2 with ⟨_, h⟩ | ⟨h, _⟩
      · exact h
      · exact absurd h (by simp)
    refine (rof_empty A c w hd2 hd).mono ?_
    rintro e w' ⟨rfl, rfl⟩
    exact ⟨none, 0, 0, rfl, (OwnE.nil 0 _).ens, Below.refl _ _⟩
  · have hE := hp.ofE hpos hu
    refine (rof_any hd2 hd hpos (Nat.le_trans hp.1 hl) hN (hp.fit (by omega))).mono ?_
    rintro e w' ⟨hb, ⟨r, A', c', _, h2, rfl, h4⟩ | ⟨h1, _⟩⟩
    · rw [hE] at h2
      cases h2
      exact ⟨A', c', r.leaves, rfl, OwnE.ens h4, hb⟩
    · rw [hE] at h1
      cases h1
end
end Go.Proofs.Ytmmikolcipcldaa
