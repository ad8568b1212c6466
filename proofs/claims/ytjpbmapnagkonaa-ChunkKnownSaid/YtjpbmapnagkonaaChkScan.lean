/-
  What is proved here: Scan of package chunk and of its reference (chapter 13). Conditions: bytes are bytes, at most 2^40 of them.
-/
import Derived.Test.YtjpbmapnagkonaaChkOpen
namespace Go.Proofs.Ytjpbmapnagkonaa
open Go.RowKit Go.Deep Go.Joins Go.WideShapes

theorem getTo_ok {L : List Int} (hL : ∀ x ∈ L, U8 x) (h : (getTo L).2.2 = 0) : 6 ≤ (getTo L).2.1.toNat ∧ (getTo L).2.1.toNat ≤ L.length ∧ (getTo L).2.1 = ((getTo L).2.1.toNat : Int) := by
  have hl := lenI_in hL
  unfold getTo at h ⊢
  by_cases h1 : L.length < 6
  · rw [if_pos h1] at h; cases h
  rw [if_neg h1] at h ⊢
  by_cases h2 : 1024 < lenI L
  · rw [if_pos h2] at h; cases h
  rw [if_neg h2] at h ⊢
  by_cases h3 : (L.length : Int) < 6 + lenI L
  · rw [if_pos h3] at h; cases h
  rw [if_neg h3] at h ⊢
  by_cases h4 : sumB L = sumL (payL L)
  · rw [if_pos h4]
    exact ⟨by show 6 ≤ (6 + lenI L).toNat; omega, by show (6 + lenI L).toNat ≤ _; omega, by show 6 + lenI L = ((6 + lenI L).toNat : Int); omega⟩
  · rw [if_neg h4] at h; cases h
/-- the payloads that bytes begin with, and how many bytes they have. -/
def scanN : Nat → List Int → List (List Int) × Nat
  | 0, _ => ([], 0)
  | k + 1, L => if (getTo L).2.2 = 0 then ((getTo L).1 :: (scanN k (L.drop (getTo L).2.1.toNat)).1, (getTo L).2.1.toNat + (scanN k (L.drop (getTo L).2.1.toNat)).2) else ([], 0)
def scanF (L : List Int) : List (List Int) × Nat := scanN (L.length + 1) L
theorem drop_u8 {L : List Int} (hL : ∀ x ∈ L, U8 x) (k : Nat) : ∀ x ∈ L.drop k, U8 x := fun x hx => hL x (List.mem_of_mem_drop hx)
theorem scanN_more : ∀ (k j : Nat) (L : List Int), (∀ x ∈ L, U8 x) → L.length < k → L.length < j → scanN k L = scanN j L
  | 0, _, _, _, h, _ => absurd h (by omega)
  | _, 0, _, _, _, h => absurd h (by omega)
  | k + 1, j + 1, L, hL, h1, h2 => by
    unfold scanN
    by_cases h : (getTo L).2.2 = 0
    · obtain ⟨h6, hle, _⟩ := getTo_ok hL h
      have hlen : (L.drop (getTo L).2.1.toNat).length = L.length - (getTo L).2.1.toNat := List.length_drop
      rw [if_pos h, if_pos h, scanN_more k j _ (drop_u8 hL _) (by omega) (by omega)]
    · rw [if_neg h, if_neg h]
theorem scanF_stop {L : List Int} (h : ¬ (getTo L).2.2 = 0) : scanF L = ([], 0) := by
  unfold scanF scanN
  rw [if_neg h]
theorem scanF_go {L : List Int} (hL : ∀ x ∈ L, U8 x) (h : (getTo L).2.2 = 0) : scanF L = ((getTo L).1 :: (scanF (L.drop (getTo L).2.1.toNat)).1, (getTo L).2.1.toNat + (scanF (L.drop (getTo L).2.1.toNat)).2) := by
  obtain ⟨h6, hle, _⟩ := getTo_ok hL h
  have hlen : (L.drop (getTo L).2.1.toNat).length = L.length - (getTo L).2.1.toNat := List.length_drop
  have e := scanN_more L.length ((L.drop (getTo L).2.1.toNat).length + 1) (L.drop (getTo L).2.1.toNat) (drop_u8 hL _) (by omega) (by omega)
  show scanN (L.length + 1) L = _
  unfold scanN
  rw [if_pos h]
  unfold scanF
  rw [e]

/-- a slice's value. -/
def IsSl (u : Value) : Prop := ∃ A n c, u = .slice A n c
/-- rows of bytes of the call's own, in a row of the call's own. -/
def RowsOwn (w : World) (base : Nat) (v : Value) (Ps : List (List Int)) : Prop :=
  ∃ xs : List Value, OwnG IsSl w base 22 1 v Ps.length xs ∧
    ∀ i, i < Ps.length → ∃ Ai ci, xs[i]? = some (.slice Ai (Ps.getD i []).length ci) ∧ OwnG (IsIntK .u8) w base 5 1 (.slice Ai (Ps.getD i []).length ci) (Ps.getD i []).length ((Ps.getD i []).map (Value.int .u8))
theorem RowsOwn.nil_ (w : World) (base : Nat) : RowsOwn w base (.slice none 0 0) [] := ⟨[], OwnG.nil_ _ _ _ _, fun i hi => absurd hi (by simp)⟩
theorem RowsOwn.below {w w' : World} {base : Nat} {v : Value} {Ps : List (List Int)} (h : RowsOwn w base v Ps) (hb : Below w.heap.size w w') : RowsOwn w' base v Ps := by
  obtain ⟨xs, ho, hr⟩ := h
  refine ⟨xs, ho.below hb, fun i hi => ?_⟩
  obtain ⟨Ai, ci, e, hi'⟩ := hr i hi
  exact ⟨Ai, ci, e, hi'.below hb⟩
theorem own_types_apart {G1 G2 : Value → Prop} {w : World} {b1 b2 : Nat} {e1 e2 : TypeId} {s1 s2 n1 n2 : Nat} {v1 v2 : Value} {x1 x2 : List Value} (h1 : OwnG G1 w b1 e1 s1 v1 n1 x1) (h2 : OwnG G2 w b2 e2 s2 v2 n2 x2) (hne : e1 ≠ e2) : ∀ b, v1.ownBlock = some b → v2.ownBlock ≠ some b := by
  intro b hb hb2
  rcases h1.1.2 with ⟨rfl, _⟩ | ⟨g, cap, cur, rfl, _, hh, _⟩
  · cases hb
  rcases h2.1.2 with ⟨rfl, _⟩ | ⟨g2, cap2, cur2, rfl, _, hh2, _⟩
  · cases hb2
  cases hb
  cases hb2
  rw [hh] at hh2
  injection hh2 with hh2
  injection hh2 with _ hh2
  exact hne hh2
theorem OwnG.grown {Good : Value → Prop} {w w' : World} {base : Nat} {e : TypeId} {size n : Nat} {v : Value} {xs : List Value} {row : Option Nat} (h : OwnG Good w base e size v n xs) (hg : w.grownBy w' row) (hne : ∀ b, v.ownBlock = some b → some b ≠ row) : OwnG Good w' base e size v n xs := by
  refine ⟨h.1.kept hg ?_, fun g c cur hv hh => ?_⟩
  · cases hv : v.ownBlock with
    | none => simp
    | some b => exact .inr (fun e => hne b hv e)
  · have hlt := (own_block_lt h.1 hv).2
    rw [hg.block g hlt (hne g (by rw [hv]; rfl))] at hh
    exact h.2 g c cur hv hh
end Go.Proofs.Ytjpbmapnagkonaa
