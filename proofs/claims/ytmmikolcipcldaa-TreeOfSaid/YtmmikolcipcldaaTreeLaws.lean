/-
  What is proved here: what a tree of pages is, its entries in order; what a range tells (chapter 15). Conditions: none.
-/
import Derived.Test.YtmmikolcipcldaaTreeMem
namespace Go.Proofs.Ytmmikolcipcldaa
open Go.RowKit Go.Deep

abbrev En := Ky × Int
/-- a page's entry. -/
def ent (P : Pg) (i : Nat) : En := (P.ks.getD i k0, P.vs.getD i 0)
/-- what lies ahead of a page's i-th kid's entries. -/
def flat (c : Nat → List En) (P : Pg) (i : Nat) : List En := (List.range i).flatMap (fun j => c j ++ [ent P j])
theorem flat_zero (c : Nat → List En) (P : Pg) : flat c P 0 = [] := rfl
theorem flat_succ (c : Nat → List En) (P : Pg) (i : Nat) : flat c P (i + 1) = flat c P i ++ (c i ++ [ent P i]) := by simp [flat, List.range_succ]
theorem flat_part (c : Nat → List En) (P : Pg) : ∀ (i n : Nat), i ≤ n → ∃ r, flat c P n = flat c P i ++ r ∧ (i < n → ∃ r', r = c i ++ [ent P i] ++ r')
  | i, n, h => by
    induction n with
    | zero => obtain rfl : i = 0 := by omega
              exact ⟨[], by simp, fun h => absurd h (by omega)⟩
    | succ n ih =>
      by_cases e : i = n + 1
      · exact ⟨[], by rw [e]; simp, fun h => absurd h (by omega)⟩
      · obtain ⟨r, hr, hr'⟩ := ih (by omega)
        refine ⟨r ++ (c n ++ [ent P n]), by rw [flat_succ, hr, List.append_assoc], fun _ => ?_⟩
        by_cases e2 : i < n
        · obtain ⟨r', h2⟩ := hr' e2
          exact ⟨r' ++ (c n ++ [ent P n]), by rw [h2, List.append_assoc]⟩
        · obtain rfl : i = n := by omega
          have : r = [] := by
            have := congrArg List.length hr
            rw [List.length_append] at this
            exact List.eq_nil_of_length_eq_zero (by omega)
          exact ⟨[], by rw [this]; simp⟩

/-- the tree under a page: its height, its entries in order, its pages. -/
def Tr (d : Nat) (M : Nat → Option Pg) : Nat → Nat → Nat → List En → List Nat → Prop
  | 0, lo, p, es, fs => ∃ P, M p = some P ∧ P.vs.length = P.ks.length ∧ lo ≤ P.ks.length ∧ P.ks.length ≤ 2 * d - 1 ∧ P.kids = [] ∧ es = flat (fun _ => []) P P.ks.length ∧ fs = [p]
  | h + 1, lo, p, es, fs => ∃ (P : Pg) (c : Nat → List En) (f : Nat → List Nat), M p = some P ∧ P.vs.length = P.ks.length ∧ lo ≤ P.ks.length ∧ P.ks.length ≤ 2 * d - 1 ∧ P.kids.length = P.ks.length + 1 ∧
      (∀ i, i ≤ P.ks.length → Tr d M h (d - 1) (P.kids.getD i 0) (c i) (f i)) ∧ es = flat c P P.ks.length ++ c P.ks.length ∧ fs = p :: (List.range (P.ks.length + 1)).flatMap f
theorem Tr.opened {d : Nat} {M : Nat → Option Pg} {h lo p : Nat} {es : List En} {fs : List Nat} (t : Tr d M h lo p es fs) :
    ∃ (P : Pg) (c : Nat → List En), M p = some P ∧ P.vs.length = P.ks.length ∧ P.ks.length ≤ 2 * d - 1 ∧ es = flat c P P.ks.length ++ c P.ks.length ∧
      ((P.kids = [] ∧ (∀ i, c i = [])) ∨ ∃ (h' : Nat) (f : Nat → List Nat), h = h' + 1 ∧ P.kids.length = P.ks.length + 1 ∧ ∀ i, i ≤ P.ks.length → Tr d M h' (d - 1) (P.kids.getD i 0) (c i) (f i)) := by
  cases h with
  | zero =>
    obtain ⟨P, h1, h2, _, h4, h5, h6, _⟩ := t
    exact ⟨P, fun _ => [], h1, h2, h4, by simpa using h6, .inl ⟨h5, fun _ => rfl⟩⟩
  | succ h =>
    obtain ⟨P, c, f, h1, h2, _, h4, h5, h6, h7, _⟩ := t
    exact ⟨P, c, h1, h2, h4, h7, .inr ⟨h, f, rfl, h5, h6⟩⟩

/-- keys rise. -/
def Up (es : List En) : Prop := es.Pairwise (fun a b => bel a.1 b.1 = true)
theorem Up.left {a b : List En} (h : Up (a ++ b)) : Up a := (List.pairwise_append.1 h).1
theorem Up.right {a b : List En} (h : Up (a ++ b)) : Up b := (List.pairwise_append.1 h).2.1
theorem Up.lt {a b : List En} (h : Up (a ++ b)) {x y : En} (hx : x ∈ a) (hy : y ∈ b) : bel x.1 y.1 = true := (List.pairwise_append.1 h).2.2 x hx y hy

/-- from a key on. -/
def From (k : Ky) (es : List En) : List En := es.filter (fun e => !bel e.1 k)
/-- ahead of a key. -/
def till (k : Ky) (es : List En) : List En := es.takeWhile (fun e => bel e.1 k)
def AllTill (k : Ky) (es : List En) : Prop := ∀ e ∈ es, bel e.1 k = true
theorem From_app (k : Ky) (a b : List En) : From k (a ++ b) = From k a ++ From k b := List.filter_append ..
theorem From_all {k : Ky} {es : List En} (h : ∀ e ∈ es, bel e.1 k = false) : From k es = es := by
  unfold From
  rw [List.filter_eq_self]
  intro e he
  rw [h e he]
  rfl
theorem From_none {k : Ky} {es : List En} (h : ∀ e ∈ es, bel e.1 k = true) : From k es = [] := by
  unfold From
  rw [List.filter_eq_nil_iff]
  intro e he
  rw [h e he]
  simp
theorem till_app {k : Ky} {a : List En} (h : AllTill k a) (b : List En) : till k (a ++ b) = a ++ till k b := by
  unfold till
  rw [List.takeWhile_append_of_pos h]
theorem till_all {k : Ky} {a : List En} (h : AllTill k a) : till k a = a := by
  have := till_app h []
  simpa [till] using this
theorem till_stop {k : Ky} {a : List En} (h : ¬ AllTill k a) (b : List En) : till k (a ++ b) = till k a := by
  unfold till
  induction a with
  | nil => exact absurd (fun e he => absurd he (by simp)) h
  | cons x a ih =>
    cases hx : bel x.1 k with
    | false => rw [List.cons_append, List.takeWhile_cons_of_neg (by simpa using hx), List.takeWhile_cons_of_neg (by simpa using hx)]
    | true =>
      rw [List.cons_append, List.takeWhile_cons_of_pos (by simpa using hx), List.takeWhile_cons_of_pos (by simpa using hx), ih (fun h' => h (fun e he => by
        rcases List.mem_cons.1 he with rfl | he
        · exact hx
        · exact h' e he))]
theorem AllTill.app {k : Ky} {a b : List En} (h1 : AllTill k a) (h2 : AllTill k b) : AllTill k (a ++ b) := fun e he => by
  rcases List.mem_append.1 he with h | h
  · exact h1 e h
  · exact h2 e h
theorem Up.till_filter {k : Ky} : ∀ {es : List En}, Up es → till k es = es.filter (fun e => bel e.1 k)
  | [], _ => rfl
  | x :: es, h => by
    unfold till
    cases hx : bel x.1 k with
    | true =>
      rw [List.takeWhile_cons_of_pos (by simpa using hx), List.filter_cons_of_pos (by simpa using hx)]
      congr 1
      exact Up.till_filter (List.pairwise_cons.1 h).2
    | false =>
      rw [List.takeWhile_cons_of_neg (by simpa using hx), List.filter_cons_of_neg (by simpa using hx), eq_comm, List.filter_eq_nil_iff]
      intro e he
      have h1 := (List.pairwise_cons.1 h).1 e he
      cases h2 : bel e.1 k with
      | false => simp
      | true => rw [bel_trans h1 h2] at hx; cases hx
theorem Up.from_ {k : Ky} {es : List En} (h : Up es) : Up (From k es) := List.Pairwise.filter _ h
/-- what a range tells. -/
def ranged (a b : Ky) (es : List En) : List En := till b (From a es)
theorem ranged_filter {a b : Ky} {es : List En} (h : Up es) : ranged a b es = es.filter (fun e => !bel e.1 a && bel e.1 b) := by
  unfold ranged
  rw [Up.till_filter h.from_]
  unfold From
  rw [List.filter_filter]
  congr 1
  funext e
  exact Bool.and_comm ..

section
variable {c : Nat → List En} {P : Pg} {es : List En}
/-- ahead of the place all is below the key. -/
theorem flat_below (h : Up es) (he : es = flat c P P.ks.length ++ c P.ks.length) (k : Ky) : ∀ i, i ≤ place P.ks k → ∀ e ∈ flat c P i, bel e.1 k = true
  | 0, _, e, h => absurd h (by simp [flat])
  | i + 1, hi, e, hm => by
    rw [flat_succ, List.mem_append] at hm
    rcases hm with hm | hm
    · exact flat_below h he k i (by omega) e hm
    · have hk : bel (ent P i).1 k = true := place_below (by omega)
      rcases List.mem_append.1 hm with hm | hm
      · have hlt : i < P.ks.length := by have := place_le P.ks k; omega
        obtain ⟨r, h1, h2⟩ := flat_part c P i P.ks.length (by omega)
        obtain ⟨r', rfl⟩ := h2 hlt
        have hu : Up ((flat c P i ++ c i) ++ ([ent P i] ++ (r' ++ c P.ks.length))) := by
          rw [he, h1] at h
          simpa [List.append_assoc] using h
        exact bel_trans (hu.lt (List.mem_append_right _ hm) (List.mem_append_left _ (List.mem_singleton.2 rfl))) hk
      · rw [List.mem_singleton.1 hm]
        exact hk
theorem ent_mem {i : Nat} (he : es = flat c P P.ks.length ++ c P.ks.length) (hi : i < P.ks.length) : ∃ r, es = flat c P i ++ (c i ++ ([ent P i] ++ r)) := by
  obtain ⟨r, h1, h2⟩ := flat_part c P i P.ks.length (by omega)
  obtain ⟨r', rfl⟩ := h2 hi
  exact ⟨r' ++ c P.ks.length, by rw [he, h1]; simp [List.append_assoc]⟩
theorem kid_mem {i : Nat} (he : es = flat c P P.ks.length ++ c P.ks.length) (hi : i ≤ P.ks.length) : ∃ r, es = flat c P i ++ (c i ++ r) := by
  by_cases e : i = P.ks.length
  · subst e; exact ⟨[], by rw [he]; simp⟩
  · obtain ⟨r, h⟩ := ent_mem he (show i < P.ks.length by omega)
    exact ⟨_, h⟩
/-- from the place on no key is below. -/
theorem ent_from (h : Up es) (he : es = flat c P P.ks.length ++ c P.ks.length) (k : Ky) {i : Nat} (h1 : place P.ks k ≤ i) (h2 : i < P.ks.length) : bel (ent P i).1 k = false := by
  have h0 : bel (ent P (place P.ks k)).1 k = false := place_not (by omega)
  by_cases e : i = place P.ks k
  · rw [e]; exact h0
  · obtain ⟨r, hr⟩ := ent_mem he h2
    obtain ⟨r', h1', h2'⟩ := flat_part c P (place P.ks k) i (by omega)
    obtain ⟨r'', rfl⟩ := h2' (by omega)
    have hu : Up ((flat c P (place P.ks k) ++ (c (place P.ks k) ++ [ent P (place P.ks k)] ++ r'')) ++ (c i ++ ([ent P i] ++ r))) := by
      rw [hr, h1'] at h
      exact h
    have := hu.lt (x := ent P (place P.ks k)) (y := ent P i) (by simp) (by simp)
    cases h3 : bel (ent P i).1 k with
    | false => rfl
    | true => rw [bel_trans this h3] at h0; cases h0
end
end Go.Proofs.Ytmmikolcipcldaa
