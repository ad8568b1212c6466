/-
  What is proved here: a region that draws its order, at the wide fence: an operation that yields its value in every world that meets S may be taken first (the fenced twin of the kit's held regions). Over any program. Conditions: each theorem's own.
-/
import Derived.OrdersHeld
import Derived.OrdersIn
import Derived.Deep.RegionHeld
namespace Go.Proofs.Ytmmikolcipcldaa

section
variable {n : Nat} {P : Program} {ops : Array Oper} {Q : Exit → Act → World → Prop} {S : World → Prop}

/-- one operation at the wide fence. -/
def One (n : Nat) (P : Program) (ops : Array Oper) (Q : Exit → Act → World → Prop) := wpOpIn Fence.wide n P ops Q

theorem one_yields {i : Nat} {o : Oper} {v : Value} {a : Act} (hi : ops[i]? = some o) (hy : YieldsIf P ops S o v a) {K : Act → World → Prop} {w : World} (hS : S w) (h : K (a.put o.dst v) w) : One n P ops Q i K a w := by
  unfold One wpOpIn
  rw [hi]
  dsimp only
  rcases hy with ⟨hw, hv⟩ | ⟨hw, rfl⟩
  · rw [if_pos hw]
    refine ⟨fun _ _ => trivial, ?_⟩
    rw [show Fence.wide.round = none from rfl, Oper.semAt_none, hv w hS]
    exact h
  · rw [if_neg (by rw [hw]; simp)]
    exact ⟨fun _ _ => trivial, h⟩

theorem one_past {j : Nat} {oi oj : Oper} {v : Value} (hj : ops[j]? = some oj) (hap : oi.apart ops oj = true)
    (hsi : ∀ cs b, oi.op ≠ .select cs b) (hsj : ∀ cs b, oj.op ≠ .select cs b)
    (hQ : ∀ c a w, Q (.panic c) (a.put oi.dst v) w → Q (.panic c) a w) {K : Act → World → Prop} {a : Act} {w : World}
    (hy : YieldsIf P ops S oi v a) (h : One n P ops Q j K (a.put oi.dst v) w) :
    One n P ops Q j (fun a' w' => YieldsIf P ops S oi v a' ∧ K (a'.put oi.dst v) w') a w := by
  obtain ⟨h1, h2, h3⟩ := Oper.apart_spec hap
  have kp : ∀ b : Act, YieldsIf P ops S oi v b → ∀ u, YieldsIf P ops S oi v (b.put oj.dst u) := fun b hb u =>
    hb.of_same (execOp_put oi hsi b oj.dst u h3) (wanted_put oi b oj.dst u h3)
  have sw : ∀ (b : Act) (u : Value), (b.put oi.dst v).put oj.dst u = (b.put oj.dst u).put oi.dst v := fun b u => Act.put_comm b v u h2
  unfold One wpOpIn at h ⊢
  rw [hj] at h ⊢
  dsimp only at h ⊢
  rw [wanted_put oj a oi.dst v h1] at h
  by_cases hw : Region.wanted oj (yielded ops a.tmps) = true
  · rw [if_pos hw] at h ⊢
    refine ⟨fun _ _ => trivial, ?_⟩
    have h := h.2
    rw [show Fence.wide.round = none from rfl, Oper.semAt_none] at h ⊢
    rw [execOp_put oj hsj a oi.dst v h1] at h
    revert h
    cases hr : (execOp a.eval oj).run P w with
    | ok x w' =>
      intro h
      cases x with
      | value u => exact ⟨kp a hy u, by have h : K _ _ := h; rw [sw] at h; exact h⟩
      | skip => exact ⟨kp a hy _, by have h : K _ _ := h; rw [sw] at h; exact h⟩
      | defer d =>
        have h : K _ _ := h
        refine ⟨kp { a with defers := d :: a.defers } (hy.of_same rfl rfl) _, ?_⟩
        rw [← Act.put_comm _ v undef h2, ← Act.put_defers]
        exact h
      | enter f args =>
        refine ⟨h.1, CallsIn.mono h.2 fun e w'' he => ?_⟩
        cases e with
        | returned u => exact ⟨kp a hy u, by have he : K _ _ := he; rw [sw] at he; exact he⟩
        | panicked c => exact hQ _ _ _ he
        | outgrown => exact he
      | row row args => exact ⟨h.1, RowsIn.mono h.2 fun u w'' he => ⟨kp a hy u, by rw [sw] at he; exact he⟩⟩
      | round l f tmps assign body =>
        refine ⟨h.1, RoundIn.mono h.2 fun e w'' he => ?_⟩
        cases e with
        | returned u => exact ⟨kp a hy u, by have he : K _ _ := he; rw [sw] at he; exact he⟩
        | panicked c => exact hQ _ _ _ he
        | outgrown => exact he
      | _ => exact h
    | halt x w' =>
      intro h
      cases x with
      | panic u => exact hQ _ _ _ h
      | _ => exact h
  · rw [if_neg hw] at h ⊢
    exact ⟨fun _ _ => trivial, kp a hy _, by have h := h.2; rw [sw] at h; exact h⟩

/-- whatever order is picked from here on; S holds behind every operation that is carried out, but for number e: behind it the plain rules stand. -/
def AnyS (n : Nat) (P : Program) (ops : Array Oper) (Q : Exit → Act → World → Prop) (S : World → Prop) (e : Nat) : Nat → Array Bool → Act → World → Prop
  | 0, d, a, w => Region.ready .any ops d = [] ∧ Q .normal a w
  | k + 1, d, a, w => (Region.ready .any ops d = [] → Q .normal a w) ∧ ∀ i ∈ Region.ready .any ops d, One n P ops Q i (fun a' w' => (i ≠ e → S w' ∧ AnyS n P ops Q S e k (d.setIfInBounds i true) a' w') ∧ (i = e → wpAnyIn Fence.wide n P .any ops Q k (d.setIfInBounds i true) a' w')) a w

theorem anyS_plain {e : Nat} : ∀ (k : Nat) (d : Array Bool) (a : Act) (w : World), AnyS n P ops Q S e k d a w → wpAnyIn Fence.wide n P .any ops Q k d a w
  | 0, _, _, _, h => h
  | k + 1, _, _, _, h => ⟨h.1, fun i hi => wpOpIn_mono (fun a' w' h' => by
      by_cases hie : i = e
      · exact h'.2 hie
      · exact anyS_plain k _ a' w' (h'.1 hie).2) (h.2 i hi)⟩

/-- does an operation wait for number i, or for one of C? -/
def waits (ops : Array Oper) (i : Nat) (C : List Nat) (x : Nat) : Bool := match ops[x]? with
  | some o => o.after.any (fun ed => Region.binds .any ed && (ed.on == i || C.contains ed.on))
  | none => false
/-- whatever waits for number i. -/
def clo (ops : Array Oper) (i : Nat) : List Nat := (List.range ops.size).foldl (fun C x => if waits ops i C x then C ++ [x] else C) []
/-- number e comes behind number i. -/
def ahead (ops : Array Oper) (d : Array Bool) (i e : Nat) : Bool := (clo ops i).all (fun x => waits ops i (clo ops i) x && !(d.getD x true)) && (decide (ops.size ≤ e) || (clo ops i).contains e)
theorem ahead_spec {d : Array Bool} {i e : Nat} (h : ahead ops d i e = true) : ∃ C : List Nat, (∀ x ∈ C, waits ops i C x = true ∧ d.getD x true = false) ∧ (ops.size ≤ e ∨ e ∈ C) := by
  unfold ahead at h
  rw [Bool.and_eq_true, List.all_eq_true, Bool.or_eq_true, decide_eq_true_eq, List.contains_iff_mem] at h
  exact ⟨clo ops i, fun x hx => by have := h.1 x hx; simpa using this, h.2⟩
theorem waits_not_ready {d : Array Bool} {i x : Nat} {C : List Nat} (hC : ∀ x ∈ C, waits ops i C x = true ∧ d.getD x true = false) (hi : d.getD i true = false) (hx : x ∈ C) : ¬ x ∈ Region.ready .any ops d := fun hr => by
  obtain ⟨_, o, ho, hall⟩ := mem_ready.1 hr
  have hw := (hC x hx).1
  unfold waits at hw
  rw [ho] at hw
  simp only [Array.any_eq_true, Bool.and_eq_true, Bool.or_eq_true, beq_iff_eq, List.contains_iff_mem] at hw
  obtain ⟨m, hm, hb, hon⟩ := hw
  have h1 := hall _ (Array.getElem_mem hm) hb
  have h2 : d.getD o.after[m].on true = false := by
    rcases hon with e | e
    · rw [e]; exact hi
    · exact (hC _ e).2
  rcases Nat.lt_or_ge o.after[m].on d.size with h' | h'
  · simp [h'] at h1 h2
    rw [h1] at h2; cases h2
  · simp [h'] at h2

theorem anyS_first {i e : Nat} {oi : Oper} {v : Value} (hi : ops[i]? = some oi) (hsel : ∀ (j : Nat) (o : Oper) cs b, ops[j]? = some o → o.op ≠ .select cs b)
    (hQ : ∀ c a w, Q (.panic c) (a.put oi.dst v) w → Q (.panic c) a w) (C : List Nat) (hCe : ops.size ≤ e ∨ e ∈ C) : ∀ (k : Nat) (d : Array Bool) (a : Act) (w : World),
      (∀ x ∈ C, waits ops i C x = true ∧ d.getD x true = false) →
      (∀ j oj, ops[j]? = some oj → j ≠ i → d.getD j true = false → (∀ e ∈ oj.after, Region.binds .any e = true → e.on ≠ i) → oi.apart ops oj = true) →
      i ∈ Region.ready .any ops d → YieldsIf P ops S oi v a → S w → AnyS n P ops Q S e k (d.setIfInBounds i true) (a.put oi.dst v) w → i ≠ e → AnyS n P ops Q S e (k + 1) d a w
  | 0, d, a, w, hC, _, hr, hy, hS, H, hne => by
    refine ⟨fun h => (by rw [h] at hr; cases hr), fun j hj => ?_⟩
    by_cases e' : j = i
    · subst e'; exact one_yields hi hy hS ⟨fun _ => ⟨hS, H⟩, fun h => absurd h hne⟩
    · have := ready_mono hj e'
      rw [H.1] at this
      cases this
  | k + 1, d, a, w, hC, hfree, hr, hy, hS, H, hne => by
    refine ⟨fun h => (by rw [h] at hr; cases hr), fun j hj => ?_⟩
    by_cases e' : j = i
    · subst e'; exact one_yields hi hy hS ⟨fun _ => ⟨hS, H⟩, fun h => absurd h hne⟩
    · have hiu : d.getD i true = false := (mem_ready.1 hr).1
      obtain ⟨hun, oj, hoj, hall⟩ := mem_ready.1 hj
      have hje : j ≠ e := fun hje => by
        subst hje
        rcases hCe with h | h
        · have := (Array.getElem?_eq_some_iff.1 hoj).1; omega
        · exact waits_not_ready hC hiu h hj
      have hjC : ∀ x ∈ C, x ≠ j := fun x hx hxj => by subst hxj; exact waits_not_ready hC hiu hx hj
      have hno : ∀ e ∈ oj.after, Region.binds .any e = true → e.on ≠ i := fun e he hb heq => by
        have h1 := hall e he hb
        rw [heq] at h1
        rcases Nat.lt_or_ge i d.size with h' | h'
        · simp [h'] at hiu h1; rw [hiu] at h1; cases h1
        · simp [Array.getElem?_eq_none h'] at h1
      have hst := one_past hoj (hfree j oj hoj e' hun hno) (fun cs b => hsel i oi cs b hi) (fun cs b => hsel j oj cs b hoj) hQ hy (H.2 j (ready_mono hj e'))
      refine wpOpIn_mono (fun a' w' hh => ⟨fun _ => ⟨(hh.2.1 hje).1, anyS_first hi hsel hQ C hCe k (d.setIfInBounds j true) a' w' (fun x hx => ⟨(hC x hx).1, ?_⟩) (fun m om hm hmi hmu hmn => hfree m om hm hmi ?_ hmn) (ready_mono hr (Ne.symm e')) hh.1 (hh.2.1 hje).1 ?_ hne⟩, fun h => absurd h hje⟩) hst
      · rw [getD_set_ne true (Ne.symm (hjC x hx))]; exact (hC x hx).2
      · by_cases ej : j = m
        · subst ej; exact hun
        · rw [getD_set_ne true ej] at hmu; exact hmu
      · rw [Array.setIfInBounds_comm _ _ e']
        exact (hh.2.1 hje).2

theorem anyS_take {i e : Nat} {oi : Oper} {v : Value} {k : Nat} {d : Array Bool} {a : Act} {w : World} (hi : ops[i]? = some oi)
    (hs : Region.noSelect ops = true) (hf : Region.free .any ops d i = true) (hr : (Region.ready .any ops d).contains i = true) (hah : ahead ops d i e = true) (hne : i ≠ e)
    (hQ : ∀ c a w, Q (.panic c) (a.put oi.dst v) w → Q (.panic c) a w) (hy : YieldsIf P ops S oi v a) (hS : S w)
    (h : AnyS n P ops Q S e k (d.setIfInBounds i true) (a.put oi.dst v) w) : AnyS n P ops Q S e (k + 1) d a w := by
  obtain ⟨C, hC, hCe⟩ := ahead_spec hah
  exact anyS_first hi (Region.noSelect_spec hs) hQ C hCe k d a w hC (Region.free_spec hi hf) (by simpa using hr) hy hS h hne

/-- one operation alone may come up: a call behind which S is shown anew. -/
theorem anyS_only {i e : Nat} {o : Oper} {k : Nat} {d : Array Bool} {a : Act} {w : World} (hr : Region.ready .any ops d = [i]) (hne : i ≠ e) (ho : ops[i]? = some o) (hw : Region.wanted o (yielded ops a.tmps) = true)
    (h : ∀ K' : Act → World → Prop, Shut (∀ a w, S w → (S w → AnyS n P ops Q S e k (d.setIfInBounds i true) a w) → K' a w) → Oper.wpIn Fence.wide n P o a w K' Q) : AnyS n P ops Q S e (k + 1) d a w := by
  refine ⟨fun h0 => (by rw [hr] at h0; cases h0), fun j hj => ?_⟩
  rw [hr] at hj
  obtain rfl : j = i := by simpa using hj
  unfold One wpOpIn
  rw [ho]
  dsimp only
  rw [if_pos hw]
  exact h _ (fun a w hS hW => ⟨fun _ => ⟨hS, hW hS⟩, fun h => absurd h hne⟩)
/-- number e. -/
theorem anyS_exit {e : Nat} {o : Oper} {k : Nat} {d : Array Bool} {a : Act} {w : World} (hr : Region.ready .any ops d = [e]) (ho : ops[e]? = some o) (hw : Region.wanted o (yielded ops a.tmps) = true)
    (h : ∀ K' : Act → World → Prop, Shut (∀ a w, wpAnyIn Fence.wide n P .any ops Q k (d.setIfInBounds e true) a w → K' a w) → Oper.wpIn Fence.wide n P o a w K' Q) : AnyS n P ops Q S e (k + 1) d a w := by
  refine ⟨fun h0 => (by rw [hr] at h0; cases h0), fun j hj => ?_⟩
  rw [hr] at hj
  obtain rfl : j = e := by simpa using hj
  unfold One wpOpIn
  rw [ho]
  dsimp only
  rw [if_pos hw]
  exact h _ (fun a w hW => ⟨fun h => absurd rfl h, fun _ => hW⟩)

theorem anyS_done {e : Nat} {d : Array Bool} {a : Act} {w : World} (hr : Region.ready .any ops d = []) (h : Q .normal a w) : ∀ k, AnyS n P ops Q S e k d a w
  | 0 => ⟨hr, h⟩
  | _ + 1 => ⟨fun _ => h, by rw [hr]; simp⟩

theorem anyS_region {id : Nat} (e : Nat) {a : Act} {w : World} (hm : P.follows .mixedOrders = true) (hS : S w.drew)
    (h : S w.drew → AnyS n P ops Q S e ops.size (Array.replicate ops.size false) a w.drew) : (Code.region id ops true).wpIn Fence.wide n P Q a w :=
  wpIn_region_any hm (anyS_plain _ _ _ _ (h hS))
end
end Go.Proofs.Ytmmikolcipcldaa
