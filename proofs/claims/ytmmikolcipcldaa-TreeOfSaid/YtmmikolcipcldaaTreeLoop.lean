/-
  What is proved here: nothing of the program: what the loop of the builder's page has come to, and each of its steps (chapter 15). Conditions: each theorem's own.
-/
import Derived.Test.YtmmikolcipcldaaTreeNds
import Derived.Test.YtmmikolcipcldaaTreeHold
namespace Go.Proofs.Ytmmikolcipcldaa
open Go.RowKit Go.Deep

theorem NdR.ents_len (n : NdR) (i : Nat) : (n.ents i).length = i := by simp [NdR.ents]
theorem NdR.ents_succ (n : NdR) (i : Nat) : n.ents (i + 1) = n.ents i ++ [n.ent i] := by simp [NdR.ents, List.range_succ]
/-- what a page's kids leave begins with what was there. -/
theorem visL_pre {n : NdR} {g : Int → List Bool → Nat → Option Vs} : ∀ (m i : Nat) (s r : Vs), visL n g m i s = some r → ∃ t, r.es = s.es ++ t
  | 0, i, s, r, h => by
    simp only [visL, Option.some.injEq] at h
    exact ⟨[], by rw [h]; simp⟩
  | m + 1, i, s, r, h => by
    unfold visL at h
    split at h
    · cases h
    · obtain ⟨t, ht⟩ := visL_pre m (i + 1) _ r h
      exact ⟨_, by rw [ht, List.append_assoc]⟩
theorem visL_len {n : NdR} {g : Int → List Bool → Nat → Option Vs} {u : Nat} (hg : ∀ k s lv r, g k s lv = some r → s.length = u → r.seen.length = u ∧ r.es.length + 31 * unseen r.seen ≤ 31 * unseen s) : ∀ (m i : Nat) (s r : Vs), visL n g m i s = some r → s.seen.length = u → r.es.length + 31 * unseen r.seen ≤ s.es.length + 31 * unseen s.seen + (n.ks.length - i)
  | 0, i, s, r, h, hs => by
    simp only [visL, Option.some.injEq] at h
    subst h
    omega
  | m + 1, i, s, r, h, hs => by
    unfold visL at h
    split at h
    · cases h
    · rename_i q hq
      have h1 := hg _ _ _ _ hq hs
      have h2 := visL_len hg m (i + 1) ⟨q.seen, q.leaves, s.es ++ (q.es ++ (if i < n.ks.length then [n.ent i] else []))⟩ r h h1.1
      simp only [List.length_append] at h2
      by_cases hlt : i < n.ks.length
      · rw [if_pos hlt] at h2
        simp only [List.length_cons, List.length_nil] at h2
        omega
      · rw [if_neg hlt] at h2
        simp only [List.length_nil] at h2
        omega
/-- what a page that may stand leaves. -/
theorem vis_open {l : List NdR} {d f a deep leaves : Nat} {seen : List Bool} {n : NdR} (hn : n = l.getD a n0) (hal : a < l.length) (hs : seen.getD a true = false) (h1 : (if a = 0 then 1 else d - 1) ≤ n.ks.length) (h2 : n.ks.length ≤ 2 * d - 1) (h3 : n.vs.length = n.ks.length)
    (h4 : n.kids.length ≠ 0 → n.kids.length = n.ks.length + 1) (h5 : n.kids.length = 0 → leaves = 0 ∨ leaves = deep) : vis l d (f + 1) (a : Int) deep seen leaves =
      if n.kids.length = 0 then some ⟨seen.set a true, deep, n.ents n.ks.length⟩ else visL n (fun k s lv => vis l d f k (deep + 1) s lv) (n.ks.length + 1) 0 ⟨seen.set a true, leaves, []⟩ := by
  have hok : okNd d (decide ((a : Int) = 0)) n = true := by
    unfold okNd
    simp only [Bool.and_eq_true, decide_eq_true_eq]
    refine ⟨?_, h2, h3, ?_⟩
    · by_cases ha : a = 0
      · rw [if_pos ha] at h1; rw [if_pos (by omega)]; exact h1
      · rw [if_neg ha] at h1; rw [if_neg (by omega)]; exact h1
    · by_cases hk : n.kids.length = 0
      · exact .inl hk
      · exact .inr (h4 hk)
  rw [vis]
  simp only [Int.toNat_natCast, ← hn]
  rw [if_neg (by omega), if_neg (by rw [hs]; simp), if_pos hok]
  by_cases hk : n.kids.length = 0
  · rw [if_pos hk, if_pos (h5 hk), if_pos hk]
  · rw [if_neg hk, if_neg hk]
theorem vis_len {l : List NdR} {d : Nat} (hd : d ≤ 16) : ∀ (f : Nat) (at_ : Int) (deep : Nat) (seen : List Bool) (leaves : Nat) (r : Vs), vis l d f at_ deep seen leaves = some r → seen.length = l.length → r.es.length + 31 * unseen r.seen ≤ 31 * unseen seen
  | 0, _, _, _, _, _, h, _ => by cases h
  | f + 1, at_, deep, seen, leaves, r, h, hs => by
    unfold vis at h
    split at h
    · cases h
    · rename_i h1
      split at h
      · cases h
      · rename_i h2
        have hlt : at_.toNat < seen.length := by omega
        have hu := unseen_set hlt (by simpa using h2)
        split at h
        · rename_i hok
          unfold okNd at hok
          simp only [Bool.and_eq_true, decide_eq_true_eq] at hok
          obtain ⟨_, h4, _, _⟩ := hok
          split at h
          · split at h
            · cases h
              simp only [NdR.ents_len]
              omega
            · cases h
          · have := visL_len (u := l.length) (fun k s lv r hr hsl => ⟨(vis_seen f k (deep + 1) s lv r hr hsl).1, vis_len hd f k (deep + 1) s lv r hr hsl⟩) _ _ _ _ h (by simpa using hs)
            simp only [List.length_nil] at this
            omega
        · cases h
theorem BdS.takes_pre {S : BdS} {a b t : List En} (h : (S.takes a).wrong = true) (hb : b = a ++ t) : (S.takes b).wrong = true := by
  rw [hb, BdS.takes_app]
  exact BdS.takes_wrong _ _ h

/-- what a page's making goes by. -/
structure Cx where
  w0 : World
  W : World
  B : Nat
  b : Nat
  sb : Nat
  d : Nat
  f : Nat
  deep : Nat
  nb : Nat
  pb : Nat
  M : Nat → Option Pg
  lv : Value
  kv : Value
  vv : Value
  cv : Value
  nds : List NdR
  S : BdS
  sn : List Bool
  n : NdR
/-- what goes through one kid. -/
def Cx.g (x : Cx) : Int → List Bool → Nat → Option Vs := fun k s lv => vis x.nds x.d x.f k (x.deep + 1) s lv
/-- what the kids so far leave. -/
def part (c : Nat → List En) (P : Pg) (i : Nat) : List En := if i ≤ P.ks.length then flat c P i else flat c P P.ks.length ++ c P.ks.length
theorem part_succ (c : Nat → List En) (P : Pg) {i : Nat} (hi : i ≤ P.ks.length) : part c P (i + 1) = part c P i ++ (c i ++ (if i < P.ks.length then [Go.Proofs.Ytmmikolcipcldaa.ent P i] else [])) := by
  unfold part
  rw [if_pos hi]
  by_cases h : i < P.ks.length
  · rw [if_pos (by omega), if_pos h, flat_succ]
  · obtain rfl : i = P.ks.length := by omega
    rw [if_neg (by omega), if_neg h, List.append_nil]
end Go.Proofs.Ytmmikolcipcldaa
