/-
  What is proved here: nothing of the program: pages that are given by number, as they are gone through: a model (chapter 15). Conditions: none.
-/
import Derived.Test.YtmmikolcipcldaaTreeOpen
namespace Go.Proofs.Ytmmikolcipcldaa
open Go.RowKit Go.Deep

/-- a page that is given: its keys, values, kids. -/
structure NdR where
  ks : List Ky
  vs : List Int
  kids : List Int
deriving DecidableEq
def n0 : NdR := ⟨[], [], []⟩
/-- has a page as many keys, values and kids as it may have? -/
def okNd (d : Nat) (root : Bool) (n : NdR) : Bool :=
  decide ((if root then 1 else d - 1) ≤ n.ks.length) && (decide (n.ks.length ≤ 2 * d - 1) && (decide (n.vs.length = n.ks.length) && decide (n.kids.length = 0 ∨ n.kids.length = n.ks.length + 1)))
def NdR.ent (n : NdR) (i : Nat) : En := (n.ks.getD i k0, n.vs.getD i 0)
/-- the entries of the first keys. -/
def NdR.ents (n : NdR) (i : Nat) : List En := (List.range i).map n.ent
/-- what going through pages leaves: which were seen, how deep the leaves are, the entries. -/
structure Vs where
  seen : List Bool
  leaves : Nat
  es : List En
deriving DecidableEq
/-- the kids of a page, one by one, from the i-th on, so many of them: g goes through one. -/
def visL (n : NdR) (g : Int → List Bool → Nat → Option Vs) : Nat → Nat → Vs → Option Vs
  | 0, _, s => some s
  | m + 1, i, s => match g (n.kids.getD i 0) s.seen s.leaves with
    | none => none
    | some r => visL n g m (i + 1) ⟨r.seen, r.leaves, s.es ++ (r.es ++ (if i < n.ks.length then [n.ent i] else []))⟩
/-- a page and all under it. -/
def vis (l : List NdR) (d : Nat) : Nat → Int → Nat → List Bool → Nat → Option Vs
  | 0, _, _, _, _ => none
  | f + 1, at_, deep, seen, leaves =>
    if at_ < 0 ∨ (l.length : Int) ≤ at_ then none
    else if seen.getD at_.toNat true then none
    else if okNd d (decide (at_ = 0)) (l.getD at_.toNat n0) then
      if (l.getD at_.toNat n0).kids.length = 0 then
        if leaves = 0 ∨ leaves = deep then some ⟨seen.set at_.toNat true, deep, (l.getD at_.toNat n0).ents (l.getD at_.toNat n0).ks.length⟩ else none
      else visL (l.getD at_.toNat n0) (fun k s lv => vis l d f k (deep + 1) s lv) ((l.getD at_.toNat n0).ks.length + 1) 0 ⟨seen.set at_.toNat true, leaves, []⟩
    else none
/-- how many were not seen. -/
def unseen (s : List Bool) : Nat := s.countP (fun b => !b)
theorem unseen_set : ∀ {s : List Bool} {i : Nat}, i < s.length → s.getD i true = false → unseen (s.set i true) + 1 = unseen s
  | b :: s, 0, _, h => by
    have : b = false := h
    subst this
    simp [unseen]
  | b :: s, i + 1, hi, h => by
    have ih := unseen_set (s := s) (i := i) (by simpa using hi) h
    unfold unseen at ih ⊢
    rw [List.set_cons_succ, List.countP_cons, List.countP_cons]
    omega
theorem visL_seen {n : NdR} {g : Int → List Bool → Nat → Option Vs} {u : Nat} (hg : ∀ k s lv r, g k s lv = some r → s.length = u → r.seen.length = u ∧ unseen r.seen ≤ unseen s) : ∀ (m i : Nat) (s r : Vs), visL n g m i s = some r → s.seen.length = u → r.seen.length = u ∧ unseen r.seen ≤ unseen s.seen
  | 0, i, s, r, h, hs => by
    simp only [visL, Option.some.injEq] at h
    subst h
    exact ⟨hs, Nat.le_refl _⟩
  | m + 1, i, s, r, h, hs => by
    unfold visL at h
    split at h
    · cases h
    · rename_i q hq
      have h1 := hg _ _ _ _ hq hs
      have h2 := visL_seen hg m (i + 1) _ r h h1.1
      exact ⟨h2.1, Nat.le_trans h2.2 h1.2⟩
theorem vis_seen {l : List NdR} {d : Nat} : ∀ (f : Nat) (at_ : Int) (deep : Nat) (seen : List Bool) (leaves : Nat) (r : Vs), vis l d f at_ deep seen leaves = some r → seen.length = l.length → r.seen.length = l.length ∧ unseen r.seen ≤ unseen seen
  | 0, _, _, _, _, _, h, _ => by cases h
  | f + 1, at_, deep, seen, leaves, r, h, hs => by
    unfold vis at h
    split at h
    · cases h
    · rename_i h1
      split at h
      · cases h
      · rename_i h2
        have hlt : at_.toNat < seen.length := by omega
        have hu := unseen_set hlt (by simpa using h2)
        split at h
        · split at h
          · split at h
            · cases h
              exact ⟨by simpa using hs, by simp only; omega⟩
            · cases h
          · have := visL_seen (u := l.length) (fun k s lv r hr hsl => vis_seen f k (deep + 1) s lv r hr hsl) _ _ _ _ h (by simpa using hs)
            exact ⟨this.1, by have h3 := this.2; simp only at h3; omega⟩
        · cases h
end Go.Proofs.Ytmmikolcipcldaa
