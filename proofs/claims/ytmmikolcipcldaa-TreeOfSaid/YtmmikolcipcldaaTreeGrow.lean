/-
  What is proved here: what putting a key into a tree of pages makes of its entries: a place in a page, a page parted in two, a step down (chapter 15). Conditions: each theorem's own.
-/
import Derived.Test.YtmmikolcipcldaaTreeLaws
import Derived.Test.YtmmikolcipcldaaTreeRow
import Derived.Test.YtmmikolcipcldaaTreeStage
namespace Go.Proofs.Ytmmikolcipcldaa
open Go.RowKit Go.Deep

/-- entries, with a key's value. -/
def insE (k : Ky) (v : Int) : List En → List En
  | [] => [(k, v)]
  | x :: es => if bel x.1 k then x :: insE k v es else if x.1 = k then (k, v) :: es else (k, v) :: x :: es
def hasE (k : Ky) (es : List En) : Bool := es.any (fun e => decide (e.1 = k))
theorem insE_skip {k : Ky} {v : Int} : ∀ {A : List En} (B : List En), (∀ e ∈ A, bel e.1 k = true) → insE k v (A ++ B) = A ++ insE k v B
  | [], B, _ => rfl
  | x :: A, B, h => by
    show insE k v (x :: (A ++ B)) = x :: (A ++ insE k v B)
    rw [← insE_skip B (fun e he => h e (List.mem_cons_of_mem _ he))]
    show (if bel x.1 k = true then x :: insE k v (A ++ B) else if x.1 = k then (k, v) :: (A ++ B) else (k, v) :: x :: (A ++ B)) = _
    rw [if_pos (h x (by simp))]
theorem insE_found {k : Ky} {v u : Int} {A B : List En} (h : ∀ e ∈ A, bel e.1 k = true) : insE k v (A ++ (k, u) :: B) = A ++ (k, v) :: B := by
  rw [insE_skip _ h]
  unfold insE
  rw [if_neg (by rw [bel_irrefl]; simp), if_pos rfl]
theorem above_not {a k : Ky} (h : bel k a = true) : bel a k = false ∧ a ≠ k := by
  refine ⟨?_, fun e => ?_⟩
  · cases h2 : bel a k with
    | false => rfl
    | true => have := bel_trans h h2; rw [bel_irrefl] at this; cases this
  · subst e; rw [bel_irrefl] at h; cases h
theorem insE_new {k : Ky} {v : Int} {A B : List En} (h : ∀ e ∈ A, bel e.1 k = true) (h2 : ∀ e ∈ B, bel k e.1 = true) : insE k v (A ++ B) = A ++ (k, v) :: B := by
  rw [insE_skip _ h]
  cases B with
  | nil => rfl
  | cons x B =>
    have := above_not (h2 x (by simp))
    unfold insE
    rw [if_neg (by rw [this.1]; simp), if_neg this.2]
theorem hasE_found {k : Ky} {u : Int} {A B : List En} : hasE k (A ++ (k, u) :: B) = true := by simp [hasE]
theorem hasE_new {k : Ky} {A B : List En} (h : ∀ e ∈ A, bel e.1 k = true) (h2 : ∀ e ∈ B, bel k e.1 = true) : hasE k (A ++ B) = false := by
  unfold hasE
  rw [List.any_eq_false]
  intro e he
  rw [decide_eq_true_eq]
  rcases List.mem_append.1 he with h' | h'
  · intro hk; have := h e h'; rw [hk, bel_irrefl] at this; cases this
  · exact (above_not (h2 e h')).2
theorem insE_up {k : Ky} {v : Int} : ∀ {es : List En}, Up es → Up (insE k v es) ∧ ∀ e ∈ insE k v es, e = (k, v) ∨ e ∈ es
  | [], _ => ⟨List.pairwise_singleton _ _, fun e he => .inl (List.mem_singleton.1 he)⟩
  | x :: es, h => by
    have h0 := List.pairwise_cons.1 h
    have ih := insE_up (k := k) (v := v) h0.2
    unfold insE
    cases hx : bel x.1 k with
    | true =>
      rw [if_pos rfl]
      refine ⟨List.pairwise_cons.2 ⟨fun e he => ?_, ih.1⟩, fun e he => ?_⟩
      · rcases ih.2 e he with rfl | h'
        · exact hx
        · exact h0.1 e h'
      · rcases List.mem_cons.1 he with rfl | he
        · exact .inr (by simp)
        · exact (ih.2 e he).imp id (List.mem_cons_of_mem _)
    | false =>
      rw [if_neg (by simp)]
      by_cases e : x.1 = k
      · rw [if_pos e]
        refine ⟨List.pairwise_cons.2 ⟨fun y hy => ?_, h0.2⟩, fun y hy => ?_⟩
        · rw [← e]; exact h0.1 y hy
        · rcases List.mem_cons.1 hy with rfl | hy
          · exact .inl rfl
          · exact .inr (List.mem_cons_of_mem _ hy)
      · rw [if_neg e]
        have hkx : bel k x.1 = true := bel_total hx e
        refine ⟨List.pairwise_cons.2 ⟨fun y hy => ?_, h⟩, fun y hy => ?_⟩
        · rcases List.mem_cons.1 hy with rfl | hy
          · exact hkx
          · exact bel_trans hkx (h0.1 y hy)
        · rcases List.mem_cons.1 hy with rfl | hy
          · exact .inl rfl
          · exact .inr hy
theorem insE_len (k : Ky) (v : Int) : ∀ es : List En, Up es → (insE k v es).length = es.length + (if hasE k es then 0 else 1)
  | [], _ => rfl
  | x :: es, h => by
    have h0 := List.pairwise_cons.1 h
    have ih := insE_len k v es h0.2
    unfold insE
    cases hx : bel x.1 k with
    | true =>
      have hne : ¬ x.1 = k := fun e => by rw [e, bel_irrefl] at hx; cases hx
      rw [if_pos rfl, List.length_cons, ih, show hasE k (x :: es) = hasE k es by unfold hasE; rw [List.any_cons, decide_eq_false hne]; rfl]
      simp only [List.length_cons]
      omega
    | false =>
      rw [if_neg (by simp)]
      by_cases e : x.1 = k
      · rw [if_pos e, show hasE k (x :: es) = true by unfold hasE; rw [List.any_cons, decide_eq_true e]; rfl]
        rfl
      · rw [if_neg e, show hasE k (x :: es) = false by
          unfold hasE
          rw [List.any_eq_false]
          intro y hy
          rw [decide_eq_true_eq]
          rcases List.mem_cons.1 hy with rfl | hy
          · exact e
          · intro hk
            have := bel_trans (h0.1 y hy) (show bel y.1 x.1 = true by rw [hk]; exact bel_total hx e)
            rw [bel_irrefl] at this
            cases this]
        rfl

/-- what lies behind a page's i-th kid's entries. -/
def seg (c : Nat → List En) (P : Pg) (i n : Nat) : List En := (List.range (n - i)).flatMap (fun j => ent P (i + j) :: c (i + j + 1))
theorem seg_end (c : Nat → List En) (P : Pg) (n : Nat) : seg c P n n = [] := by simp [seg]
theorem seg_snoc (c : Nat → List En) (P : Pg) {i n : Nat} (h : i ≤ n) : seg c P i (n + 1) = seg c P i n ++ (ent P n :: c (n + 1)) := by
  unfold seg
  rw [show n + 1 - i = (n - i) + 1 by omega, List.range_succ, List.flatMap_append]
  simp only [List.flatMap_cons, List.flatMap_nil, List.append_nil]
  rw [show i + (n - i) = n by omega]
theorem seg_cons (c : Nat → List En) (P : Pg) {i n : Nat} (h : i < n) : seg c P i n = ent P i :: (c (i + 1) ++ seg c P (i + 1) n) := by
  unfold seg
  rw [show n - i = (n - (i + 1)) + 1 by omega, List.range_succ_eq_map, List.flatMap_cons, List.flatMap_map]
  simp only [Nat.add_zero, List.cons_append, Nat.succ_eq_add_one]
  congr 3
  funext j
  rw [show i + (j + 1) = i + 1 + j by omega]
theorem seg_congr {c c' : Nat → List En} {P P' : Pg} {i n s : Nat} (h : ∀ j, i ≤ j → j < n → ent P' (j + s) = ent P j ∧ c' (j + s + 1) = c (j + 1)) : seg c' P' (i + s) (n + s) = seg c P i n := by
  unfold seg
  rw [show n + s - (i + s) = n - i by omega]
  rw [List.flatMap_def, List.flatMap_def]
  congr 1
  refine List.map_congr_left fun j hj => ?_
  rw [List.mem_range] at hj
  have := h (i + j) (by omega) (by omega)
  rw [show i + s + j = i + j + s by omega, this.1, this.2]
theorem flat_congr {c c' : Nat → List En} {P P' : Pg} {i : Nat} (h : ∀ j, j < i → ent P' j = ent P j ∧ c' j = c j) : flat c' P' i = flat c P i := by
  unfold flat
  rw [List.flatMap_def, List.flatMap_def]
  congr 1
  refine List.map_congr_left fun j hj => ?_
  rw [List.mem_range] at hj
  rw [(h j hj).1, (h j hj).2]
theorem parted (c : Nat → List En) (P : Pg) {i n : Nat} (h : i ≤ n) : flat c P n ++ c n = flat c P i ++ (c i ++ seg c P i n) := by
  induction n with
  | zero => obtain rfl : i = 0 := by omega
            simp [seg_end]
  | succ n ih =>
    by_cases e : i = n + 1
    · subst e; rw [seg_end, List.append_nil]
    · rw [flat_succ, seg_snoc c P (show i ≤ n by omega)]
      have := ih (by omega)
      calc flat c P n ++ (c n ++ [ent P n]) ++ c (n + 1) = (flat c P n ++ c n) ++ (ent P n :: c (n + 1)) := by simp [List.append_assoc]
        _ = _ := by rw [this]; simp [List.append_assoc]
theorem ent_at {ks ks' : List Ky} {vs vs' : List Int} {kids kids' : List Nat} {gk gv gc ck cv cc gk' gv' gc' ck' cv' cc' j j' : Nat} (h1 : ks'.getD j' k0 = ks.getD j k0) (h2 : vs'.getD j' 0 = vs.getD j 0) :
    ent ⟨ks', vs', kids', gk', gv', gc', ck', cv', cc'⟩ j' = ent ⟨ks, vs, kids, gk, gv, gc, ck, cv, cc⟩ j := by
  unfold ent
  rw [h1, h2]
section
variable {α : Type} {l : List α} {i j : Nat} {x z : α}
theorem insAt_lo (h : j < i) (hi : i ≤ l.length) : (insAt l i x).getD j z = l.getD j z := by
  unfold insAt
  rw [List.getD_eq_getElem?_getD, List.getElem?_append_left (by rw [List.length_take]; omega), List.getElem?_take_of_lt h, ← List.getD_eq_getElem?_getD]
theorem insAt_at (hi : i ≤ l.length) : (insAt l i x).getD i z = x := by
  unfold insAt
  rw [List.getD_eq_getElem?_getD, List.getElem?_append_right (by rw [List.length_take]; omega), List.length_take, Nat.min_eq_left hi, Nat.sub_self]
  rfl
theorem insAt_hi (h : i ≤ j) (hi : i ≤ l.length) : (insAt l i x).getD (j + 1) z = l.getD j z := by
  unfold insAt
  rw [List.getD_eq_getElem?_getD, List.getElem?_append_right (by rw [List.length_take]; omega), List.length_take, Nat.min_eq_left hi, show j + 1 - i = (j - i) + 1 by omega, List.getElem?_cons_succ, List.getElem?_drop, show i + (j - i) = j by omega, ← List.getD_eq_getElem?_getD]
theorem take_getD (h : j < i) : (l.take i).getD j z = l.getD j z := by
  rw [List.getD_eq_getElem?_getD, List.getElem?_take_of_lt h, ← List.getD_eq_getElem?_getD]
theorem drop_getD : (l.drop i).getD j z = l.getD (j + i) z := by
  rw [List.getD_eq_getElem?_getD, List.getElem?_drop, Nat.add_comm, ← List.getD_eq_getElem?_getD]
theorem set_at (h : i < l.length) : (l.set i x).getD i z = x := by
  rw [List.getD_eq_getElem?_getD, List.getElem?_set_self h]; rfl
theorem set_off (h : i ≠ j) : (l.set i x).getD j z = l.getD j z := by
  rw [List.getD_eq_getElem?_getD, List.getElem?_set_ne h, ← List.getD_eq_getElem?_getD]
end
end Go.Proofs.Ytmmikolcipcldaa
