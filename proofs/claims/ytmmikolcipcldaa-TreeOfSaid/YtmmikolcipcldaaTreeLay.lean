/-
  What is proved here: nothing of the program: a tree's pages by number, as Nodes tells them, and what they are gone through to (chapter 15). Conditions: none.
-/
import Derived.Test.YtmmikolcipcldaaTreeMade
namespace Go.Proofs.Ytmmikolcipcldaa
open Go.RowKit Go.Deep

/-- the page at an address. -/
def pgOf (M : Nat → Option Pg) (p : Nat) : Pg := (M p).getD P00
theorem pgOf_some {M : Nat → Option Pg} {p : Nat} {P : Pg} (h : M p = some P) : pgOf M p = P := by unfold pgOf; rw [h]; rfl
/-- the pages under the first kids, which are laid from a number on. -/
def nodesTo (g : Nat → Nat → List NdR) (n : Nat) (kids : List Nat) : Nat → List NdR
  | 0 => []
  | i + 1 => nodesTo g n kids i ++ g (kids.getD i 0) (n + (nodesTo g n kids i).length)
/-- their numbers. -/
def idxTo (g : Nat → Nat → List NdR) (n : Nat) (kids : List Nat) (i : Nat) : List Int := (List.range i).map (fun j => ((n + (nodesTo g n kids j).length : Nat) : Int))
/-- a page and all under it, the page itself with this number. -/
def lay (M : Nat → Option Pg) : Nat → Nat → Nat → List NdR
  | 0, p, _ => [⟨(pgOf M p).ks, (pgOf M p).vs, []⟩]
  | h + 1, p, n => ⟨(pgOf M p).ks, (pgOf M p).vs, idxTo (lay M h) (n + 1) (pgOf M p).kids (pgOf M p).kids.length⟩ :: nodesTo (lay M h) (n + 1) (pgOf M p).kids (pgOf M p).kids.length
theorem idxTo_len (g : Nat → Nat → List NdR) (n : Nat) (kids : List Nat) (i : Nat) : (idxTo g n kids i).length = i := by simp [idxTo]
theorem idxTo_get (g : Nat → Nat → List NdR) (n : Nat) (kids : List Nat) {i j : Nat} (h : j < i) : (idxTo g n kids i).getD j 0 = ((n + (nodesTo g n kids j).length : Nat) : Int) := by simp [idxTo, h]
theorem idxTo_succ (g : Nat → Nat → List NdR) (n : Nat) (kids : List Nat) (i : Nat) : idxTo g n kids (i + 1) = idxTo g n kids i ++ [((n + (nodesTo g n kids i).length : Nat) : Int)] := by simp [idxTo, List.range_succ]
theorem nodesTo_part (g : Nat → Nat → List NdR) (n : Nat) (kids : List Nat) {i m : Nat} (h : i ≤ m) : ∃ r, nodesTo g n kids m = nodesTo g n kids i ++ r := by
  induction m with
  | zero => obtain rfl : i = 0 := by omega
            exact ⟨[], by simp⟩
  | succ m ih =>
    by_cases e : i = m + 1
    · exact ⟨[], by rw [e]; simp⟩
    · obtain ⟨r, hr⟩ := ih (by omega)
      exact ⟨r ++ g (kids.getD m 0) (n + (nodesTo g n kids m).length), by show nodesTo g n kids m ++ _ = _; rw [hr, List.append_assoc]⟩
theorem lay_cons (M : Nat → Option Pg) (h p n : Nat) : ∃ x r, lay M h p n = x :: r := by
  cases h with
  | zero => exact ⟨_, _, rfl⟩
  | succ h => exact ⟨_, _, rfl⟩
theorem lay_pos (M : Nat → Option Pg) (h p n : Nat) : 0 < (lay M h p n).length := by
  obtain ⟨x, r, e⟩ := lay_cons M h p n
  rw [e]; simp
theorem lay_deep {d : Nat} {M : Nat → Option Pg} : ∀ {h lo p n : Nat} {es : List En} {fs : List Nat}, Tr d M h lo p es fs → h + 1 ≤ (lay M h p n).length
  | 0, _, _, _, _, _, _ => Nat.le_refl _
  | h + 1, lo, p, n, es, fs, t => by
    obtain ⟨P, c, f, hp, _, _, _, hk, ht, _, _⟩ := t
    have h0 := lay_deep (n := n + 1) (ht 0 (Nat.zero_le _))
    obtain ⟨r, hr⟩ := nodesTo_part (lay M h) (n + 1) P.kids (show 1 ≤ P.kids.length by omega)
    show h + 1 + 1 ≤ (_ :: nodesTo (lay M h) (n + 1) (pgOf M p).kids (pgOf M p).kids.length).length
    rw [pgOf_some hp, List.length_cons, hr, List.length_append]
    have e : nodesTo (lay M h) (n + 1) P.kids 1 = lay M h (P.kids.getD 0 0) (n + 1) := by simp [nodesTo]
    rw [e]
    omega
theorem flat_len0 (P : Pg) : ∀ i, (flat (fun _ => []) P i).length = i
  | 0 => rfl
  | i + 1 => by rw [flat_succ, List.length_append, flat_len0 P i]; rfl
/-- there are no more pages than keys. -/
theorem lay_few {d : Nat} (hd : 2 ≤ d) {M : Nat → Option Pg} : ∀ {h lo p n : Nat} {es : List En} {fs : List Nat}, 1 ≤ lo → Tr d M h lo p es fs → (lay M h p n).length ≤ es.length
  | 0, lo, p, n, es, fs, hlo, t => by
    obtain ⟨P, hp, _, h1, _, _, h6, _⟩ := t
    rw [h6, flat_len0]
    show 1 ≤ _
    omega
  | h + 1, lo, p, n, es, fs, hlo, t => by
    obtain ⟨P, c, f, hp, _, h1, _, hk, ht, h6, _⟩ := t
    have key : ∀ i, i ≤ P.ks.length → (nodesTo (lay M h) (n + 1) P.kids i).length + i ≤ (flat c P i).length := by
      intro i
      induction i with
      | zero => intro _; exact Nat.le_refl _
      | succ i ih =>
        intro hi
        have h2 := ih (by omega)
        have h3 := lay_few hd (n := n + 1 + (nodesTo (lay M h) (n + 1) P.kids i).length) (by omega) (ht i (by omega))
        rw [flat_succ]
        show (nodesTo (lay M h) (n + 1) P.kids i ++ lay M h (P.kids.getD i 0) _).length + (i + 1) ≤ _
        simp only [List.length_append, List.length_singleton]
        omega
    have h2 := key P.ks.length (Nat.le_refl _)
    have h3 := lay_few hd (n := n + 1 + (nodesTo (lay M h) (n + 1) P.kids P.ks.length).length) (by omega) (ht P.ks.length (Nat.le_refl _))
    show (_ :: nodesTo (lay M h) (n + 1) (pgOf M p).kids (pgOf M p).kids.length).length ≤ _
    rw [pgOf_some hp, hk, h6]
    show (nodesTo (lay M h) (n + 1) P.kids P.ks.length ++ lay M h (P.kids.getD P.ks.length 0) _).length + 1 ≤ _
    simp only [List.length_append]
    omega
/-- a tree is flat. -/
theorem Tr.flat_ {d : Nat} (hd : 2 ≤ d) {M : Nat → Option Pg} : ∀ {h lo p : Nat} {es : List En} {fs : List Nat}, Tr d M h lo p es fs → (lo + 1) * d ^ h ≤ es.length + 1
  | 0, lo, p, es, fs, t => by
    obtain ⟨P, hp, _, h1, _, _, h6, _⟩ := t
    rw [h6, flat_len0]
    simp only [Nat.pow_zero, Nat.mul_one]
    omega
  | h + 1, lo, p, es, fs, t => by
    obtain ⟨P, c, f, hp, _, h1, _, hk, ht, h6, _⟩ := t
    have hkid : ∀ i, i ≤ P.ks.length → d ^ (h + 1) ≤ (c i).length + 1 := fun i hi => by
      have := Tr.flat_ hd (ht i hi)
      rw [show d - 1 + 1 = d by omega] at this
      rw [Nat.pow_succ, Nat.mul_comm]
      exact this
    have key : ∀ i, i ≤ P.ks.length → i * d ^ (h + 1) ≤ (flat c P i).length := by
      intro i
      induction i with
      | zero => intro _; simp
      | succ i ih =>
        intro hi
        have h2 := ih (by omega)
        have h3 := hkid i (by omega)
        rw [flat_succ, Nat.succ_mul]
        simp only [List.length_append, List.length_singleton]
        omega
    have h2 := key P.ks.length (Nat.le_refl _)
    have h3 := hkid P.ks.length (Nat.le_refl _)
    rw [h6, List.length_append]
    refine Nat.le_trans (Nat.mul_le_mul_right _ (Nat.succ_le_succ h1)) ?_
    rw [Nat.succ_mul]
    omega
/-- flags at a place. -/
theorem flags_at {A B : List Bool} {n k : Nat} {b : Bool} (hA : A.length = n) (hk : 0 < k) : (A ++ (List.replicate k b ++ B)).getD n true = b := by
  obtain ⟨k, rfl⟩ : ∃ m, k = m + 1 := ⟨k - 1, by omega⟩
  subst hA
  simp [List.replicate_succ]
theorem flags_set {A B : List Bool} {n k : Nat} (hA : A.length = n) : (A ++ (List.replicate (k + 1) false ++ B)).set n true = (A ++ [true]) ++ (List.replicate k false ++ B) := by
  subst hA
  simp [List.replicate_succ, List.set_append_right]
theorem at_pre {pre post lay : List NdR} {n : Nat} (hpre : pre.length = n) {x : NdR} {r : List NdR} (hl : lay = x :: r) : (pre ++ (lay ++ post)).getD n n0 = x ∧ n < (pre ++ (lay ++ post)).length := by
  subst hpre hl
  exact ⟨by simp, by simp⟩
/-- a tree's pages are gone through to its entries. -/
theorem vis_lay {d : Nat} {M : Nat → Option Pg} (l : List NdR) : ∀ (h : Nat) {lo p : Nat} {es : List En} {fs : List Nat}, Tr d M h lo p es fs → ∀ (f n deep leaves : Nat) (pre post : List NdR) (A B : List Bool),
    (lo = if n = 0 then 1 else d - 1) → h < f → l = pre ++ (lay M h p n ++ post) → pre.length = n → A.length = n → (leaves = 0 ∨ leaves = deep + h) →
    vis l d f n deep (A ++ (List.replicate (lay M h p n).length false ++ B)) leaves = some ⟨A ++ (List.replicate (lay M h p n).length true ++ B), deep + h, es⟩
  | h, lo, p, es, fs, t, 0, n, deep, leaves, pre, post, A, B, hlo, hf, hl, hpre, hA, hlv => absurd hf (by omega)
  | 0, lo, p, es, fs, t, f + 1, n, deep, leaves, pre, post, A, B, hlo, hf, hl, hpre, hA, hlv => by
    obtain ⟨P, hp, hv, h1, h2, hk, h6, _⟩ := t
    have hlay : lay M 0 p n = [⟨P.ks, P.vs, []⟩] := by show [_] = _; rw [pgOf_some hp]
    obtain ⟨g1, g2⟩ := at_pre (post := post) hpre hlay
    rw [← hl] at g1 g2
    have h7 := vis_open (d := d) (f := f) (deep := deep) (leaves := leaves) g1.symm g2 (flags_at (A := A) (B := B) (b := false) hA (lay_pos M 0 p n)) (by rw [← hlo]; exact h1) h2 hv (fun h => absurd rfl h) (fun _ => by simpa using hlv)
    rw [if_pos (by rfl), hlay, List.length_singleton, flags_set (k := 0) hA] at h7
    rw [hlay, List.length_singleton, h7, h6, NdR.ents_flat (n := ⟨P.ks, P.vs, []⟩) rfl rfl]
    simp
  | h + 1, lo, p, es, fs, t, f + 1, n, deep, leaves, pre, post, A, B, hlo, hf, hl, hpre, hA, hlv => by
    obtain ⟨P, c, fk, hp, hv, h1, h2, hk, ht, h6, _⟩ := t
    obtain ⟨N, hN⟩ : ∃ N : NdR, N = ⟨P.ks, P.vs, idxTo (lay M h) (n + 1) P.kids P.kids.length⟩ := ⟨_, rfl⟩
    have hlay : lay M (h + 1) p n = N :: nodesTo (lay M h) (n + 1) P.kids P.kids.length := by rw [hN]; show _ :: _ = _; rw [pgOf_some hp]
    obtain ⟨g1, g2⟩ := at_pre (post := post) hpre hlay
    rw [← hl] at g1 g2
    have hks : N.ks = P.ks := by rw [hN]
    have hvs : N.vs = P.vs := by rw [hN]
    have hkl : N.kids.length = P.ks.length + 1 := by rw [hN]; show (idxTo _ _ _ _).length = _; rw [idxTo_len, hk]
    rw [vis_open g1.symm g2 (flags_at hA (lay_pos _ _ _ _)) (by rw [← hlo, hks]; exact h1) (by rw [hks]; exact h2) (by rw [hks, hvs]; exact hv) (fun _ => by rw [hkl, hks]) (fun h => by rw [hkl] at h; cases h), if_neg (by rw [hkl]; omega), hlay, List.length_cons, flags_set hA]
    rw [hlay] at hl
    obtain ⟨T, hT⟩ : ∃ T, T = (nodesTo (lay M h) (n + 1) P.kids P.kids.length).length := ⟨_, rfl⟩
    rw [← hT]
    have key : ∀ (m i lv : Nat), i + m = P.ks.length + 1 → (lv = 0 ∨ lv = deep + (h + 1)) →
        visL N (fun k s lv => vis l d f k (deep + 1) s lv) m i ⟨(A ++ [true]) ++ (List.replicate (nodesTo (lay M h) (n + 1) P.kids i).length true ++ (List.replicate (T - (nodesTo (lay M h) (n + 1) P.kids i).length) false ++ B)), lv, if i ≤ P.ks.length then flat c P i else es⟩ =
          some ⟨(A ++ [true]) ++ (List.replicate T true ++ B), if m = 0 then lv else deep + (h + 1), es⟩ := by
      intro m
      induction m with
      | zero =>
        intro i lv hi _
        obtain rfl : i = P.ks.length + 1 := by omega
        rw [if_neg (by omega), ← hk, ← hT, Nat.sub_self]
        simp [visL]
      | succ m ih =>
        intro i lv hi hlv
        rw [if_pos (by omega), if_neg (by omega)]
        have hin : i < P.kids.length := by omega
        obtain ⟨r, hr⟩ := nodesTo_part (lay M h) (n + 1) P.kids (show i + 1 ≤ P.kids.length by omega)
        have hs : nodesTo (lay M h) (n + 1) P.kids (i + 1) = nodesTo (lay M h) (n + 1) P.kids i ++ lay M h (P.kids.getD i 0) (n + 1 + (nodesTo (lay M h) (n + 1) P.kids i).length) := rfl
        have hlen : (nodesTo (lay M h) (n + 1) P.kids (i + 1)).length = (nodesTo (lay M h) (n + 1) P.kids i).length + (lay M h (P.kids.getD i 0) (n + 1 + (nodesTo (lay M h) (n + 1) P.kids i).length)).length := by rw [hs, List.length_append]
        have hTr : T = (nodesTo (lay M h) (n + 1) P.kids (i + 1)).length + r.length := by rw [hT, hr, List.length_append]
        have hkid : N.kids.getD i 0 = ((n + 1 + (nodesTo (lay M h) (n + 1) P.kids i).length : Nat) : Int) := by rw [hN]; exact idxTo_get _ _ _ hin
        unfold visL
        simp only []
        rw [hkid]
        have h7 := vis_lay l h (ht i (by omega)) f (n + 1 + (nodesTo (lay M h) (n + 1) P.kids i).length) (deep + 1) lv (pre ++ N :: nodesTo (lay M h) (n + 1) P.kids i) (r ++ post) ((A ++ [true]) ++ List.replicate (nodesTo (lay M h) (n + 1) P.kids i).length true) (List.replicate r.length false ++ B)
          (by rw [if_neg (by omega)]) (by omega) (by rw [hl, hr, hs]; simp) (by simp; omega) (by simp; omega) (by omega)
        have e1 : T - (nodesTo (lay M h) (n + 1) P.kids i).length = (lay M h (P.kids.getD i 0) (n + 1 + (nodesTo (lay M h) (n + 1) P.kids i).length)).length + r.length := by omega
        rw [e1, ← List.replicate_append_replicate]
        simp only [List.append_assoc] at h7 ⊢
        rw [h7]
        simp only []
        have h8 := ih (i + 1) (deep + (h + 1)) (by omega) (.inr rfl)
        rw [show T - (nodesTo (lay M h) (n + 1) P.kids (i + 1)).length = r.length by omega, hlen, ← List.replicate_append_replicate, ite_self] at h8
        simp only [List.append_assoc] at h8
        have he : flat c P i ++ (c i ++ (if i < N.ks.length then [N.ent i] else [])) = if i + 1 ≤ P.ks.length then flat c P (i + 1) else es := by
          rw [hks]
          by_cases hlt : i < P.ks.length
          · rw [if_pos hlt, if_pos (by omega), flat_succ, ent_nd hks.symm hvs.symm]
          · rw [if_neg hlt, if_neg (by omega), h6, List.append_nil]
            obtain rfl : i = P.ks.length := by omega
            rfl
        rw [he, show deep + 1 + h = deep + (h + 1) by omega]
        exact h8
    have h9 := key (P.ks.length + 1) 0 leaves (by omega) hlv
    rw [if_pos (Nat.zero_le _), if_neg (by omega)] at h9
    simp only [nodesTo, List.length_nil, Nat.sub_zero, List.replicate_zero, List.nil_append, flat_zero] at h9
    rw [hks, h9]
    simp [List.replicate_succ]
theorem all_true : ∀ n : Nat, (List.replicate n true).all id = true
  | 0 => rfl
  | n + 1 => by rw [List.replicate_succ, List.all_cons, all_true n]; rfl
/-- what a whole tree's pages are gone through to. -/
theorem vis_whole {d h p : Nat} {M : Nat → Option Pg} {es : List En} {fs : List Nat} (t : Tr d M h 1 p es fs) :
    vis (lay M h p 0) d ((lay M h p 0).length + 1) 0 1 (List.replicate (lay M h p 0).length false) 0 = some ⟨List.replicate (lay M h p 0).length true, 1 + h, es⟩ := by
  have h1 := lay_deep (n := 0) t
  have h2 := vis_lay (lay M h p 0) h t ((lay M h p 0).length + 1) 0 1 0 [] [] [] [] rfl (by omega) (by simp) rfl rfl (.inl rfl)
  simpa using h2
theorem ofE_lay {d h p : Nat} {M : Nat → Option Pg} {es : List En} {fs : List Nat} (t : Tr d M h 1 p es fs) (hu : Up es) : ofE d (lay M h p 0) = some es :=
  ofE_some (vis_whole t) (all_true _) hu
/-- each page that is laid is not great. -/
theorem lay_fit {d : Nat} (hd : d ≤ 16) {M : Nat → Option Pg} : ∀ {h lo p n : Nat} {es : List En} {fs : List Nat}, Tr d M h lo p es fs → ∀ x ∈ lay M h p n, x.ks.length ≤ 31 ∧ x.vs.length ≤ 31 ∧ x.kids.length ≤ 32
  | 0, lo, p, n, es, fs, t, x, hx => by
    obtain ⟨P, hp, hv, h1, h2, hk, h6, _⟩ := t
    have hlay : lay M 0 p n = [⟨P.ks, P.vs, []⟩] := by show [_] = _; rw [pgOf_some hp]
    rw [hlay, List.mem_singleton] at hx
    subst hx
    exact ⟨by show P.ks.length ≤ 31; omega, by show P.vs.length ≤ 31; omega, by simp⟩
  | h + 1, lo, p, n, es, fs, t, x, hx => by
    obtain ⟨P, c, fk, hp, hv, h1, h2, hk, ht, h6, _⟩ := t
    have hlay : lay M (h + 1) p n = ⟨P.ks, P.vs, idxTo (lay M h) (n + 1) P.kids P.kids.length⟩ :: nodesTo (lay M h) (n + 1) P.kids P.kids.length := by show _ :: _ = _; rw [pgOf_some hp]
    rw [hlay, List.mem_cons] at hx
    rcases hx with rfl | hx
    · exact ⟨by show P.ks.length ≤ 31; omega, by show P.vs.length ≤ 31; omega, by show (idxTo _ _ _ _).length ≤ 32; rw [idxTo_len]; omega⟩
    · have key : ∀ i, i ≤ P.kids.length → ∀ x ∈ nodesTo (lay M h) (n + 1) P.kids i, x.ks.length ≤ 31 ∧ x.vs.length ≤ 31 ∧ x.kids.length ≤ 32 := by
        intro i
        induction i with
        | zero => intro _ x hx; cases hx
        | succ i ih =>
          intro hi x hx
          rcases List.mem_append.1 (show x ∈ nodesTo (lay M h) (n + 1) P.kids i ++ _ from hx) with hx | hx
          · exact ih (by omega) x hx
          · exact lay_fit hd (ht i (by omega)) x hx
      exact key _ (Nat.le_refl _) x hx
end Go.Proofs.Ytmmikolcipcldaa
