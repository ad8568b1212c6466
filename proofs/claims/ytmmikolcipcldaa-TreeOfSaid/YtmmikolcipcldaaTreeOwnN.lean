/-
  What is proved here: a list of pages of the call's own, in memory: a page is appended, its kids are stored, it is written over (chapter 15). Conditions: each theorem's own.
-/
import Derived.Test.YtmmikolcipcldaaTreeLay
import Derived.Test.YtmmikolcipcldaaOwn
namespace Go.Proofs.Ytmmikolcipcldaa
open Go.RowKit Go.Deep

section
variable {n : Nat} {P : Program} {ops : Array Oper} {Q : Exit → Act → World → Prop} {S : World → Prop}
/-- two operations may come up. -/
theorem anyS_two {i j e : Nat} {oi oj : Oper} {k : Nat} {d : Array Bool} {a : Act} {w : World} (hr : Region.ready .any ops d = [i, j]) (hi : i ≠ e) (hj : j ≠ e) (hoi : ops[i]? = some oi) (hoj : ops[j]? = some oj) (hwi : Region.wanted oi (yielded ops a.tmps) = true) (hwj : Region.wanted oj (yielded ops a.tmps) = true)
    (h1 : ∀ K' : Act → World → Prop, Shut (∀ a w, S w → (S w → AnyS n P ops Q S e k (d.setIfInBounds i true) a w) → K' a w) → Oper.wpIn Fence.wide n P oi a w K' Q)
    (h2 : ∀ K' : Act → World → Prop, Shut (∀ a w, S w → (S w → AnyS n P ops Q S e k (d.setIfInBounds j true) a w) → K' a w) → Oper.wpIn Fence.wide n P oj a w K' Q) : AnyS n P ops Q S e (k + 1) d a w := by
  refine ⟨fun h0 => (by rw [hr] at h0; cases h0), fun x hx => ?_⟩
  rw [hr] at hx
  rcases List.mem_cons.1 hx with rfl | hx
  · unfold One wpOpIn
    rw [hoi]
    dsimp only
    rw [if_pos hwi]
    exact h1 _ (fun a w hS hW => ⟨fun _ => ⟨hS, hW hS⟩, fun h => absurd h hi⟩)
  · obtain rfl : x = j := by simpa using hx
    unfold One wpOpIn
    rw [hoj]
    dsimp only
    rw [if_pos hwj]
    exact h2 _ (fun a w hS hW => ⟨fun _ => ⟨hS, hW hS⟩, fun h => absurd h hj⟩)
/-- append, by its run. -/
theorem wpIn_append_run {F : Fence} {m : Nat} {o : Oper} {a : Act} {w w' : World} {K : Act → World → Prop} (s x : Operand) (t : TypeId) (ho : o.op = .call { callee := .builtin .append, args := #[s, x], argTypes := #[t, t] })
    {v u v' : Value} (hs : a.eval s = v) (hx : a.eval x = u) (hr : (Builtin.append_ #[t, t] o.type #[v, u]).run P w = .ok v' w') (h : K (a.put o.dst v') w') : Oper.wpIn F m P o a w K Q := by
  unfold Oper.wpIn
  refine ⟨?_, ?_⟩
  · simp [Oper.about, ho, resolve, Target.leads, Sem.run_pure]
  · rw [Oper.semAt_plain F _ _ (by rw [ho]; intro c hc'; cases hc')]
    simp [execOp, ho, resolve, invoke, builtin, hs, hx, hr, Result.andThen]
    exact h
end

theorem getD_left {α : Type} {d : α} {a b : List α} {i : Nat} (h : i < a.length) : (a ++ b).getD i d = a.getD i d := by simp [List.getD_eq_getElem?_getD, List.getElem?_append_left h]
theorem getD_last {α : Type} {d x : α} {a : List α} {i : Nat} (h : i = a.length) : (a ++ [x]).getD i d = x := by subst h; simp
/-- is a value a number? -/
def IntV (u : Value) : Prop := ∃ z : Int, u = .int .i64 z
abbrev OwnK (lo : Nat) (W : World) (v : Value) (ks : List Ky) : Prop := OwnG IntV W lo 24 2 v ks.length (kcells ks)
abbrev OwnI (lo : Nat) (W : World) (v : Value) (xs : List Int) : Prop := OwnG IntV W lo 3 1 v xs.length (vcells xs)
/-- a page's three lists. -/
structure Trip where
  k : Value
  v : Value
  c : Value
def t0 : Trip := ⟨undef, undef, undef⟩
def tcells (ts : List Trip) : List Value := ts.flatMap (fun t => [t.k, t.v, t.c])
theorem tcells_app (a b : List Trip) : tcells (a ++ b) = tcells a ++ tcells b := by simp [tcells]
theorem tcells_len (ts : List Trip) : (tcells ts).length = ts.length * 3 := by
  induction ts with
  | nil => rfl
  | cons k ts ih => show ([k.k, k.v, k.c] ++ tcells ts).length = _; rw [List.length_append, ih]; show 3 + _ = _; rw [List.length_cons]; omega
theorem tcells_at : ∀ (ts : List Trip) (i : Nat), i < ts.length → (tcells ts)[i * 3]? = some (ts.getD i t0).k ∧ (tcells ts)[i * 3 + 1]? = some (ts.getD i t0).v ∧ (tcells ts)[i * 3 + 2]? = some (ts.getD i t0).c
  | [], i, h => absurd h (by simp)
  | k :: ts, 0, _ => ⟨rfl, rfl, rfl⟩
  | k :: ts, i + 1, h => by
    have := tcells_at ts i (by simpa using h)
    exact ⟨by rw [show (i + 1) * 3 = i * 3 + 3 by omega]; exact this.1, by rw [show (i + 1) * 3 + 1 = (i * 3 + 1) + 3 by omega]; exact this.2.1, by rw [show (i + 1) * 3 + 2 = (i * 3 + 2) + 3 by omega]; exact this.2.2⟩
theorem tcells_set : ∀ (ts : List Trip) (i : Nat) (c : Value), i < ts.length → (tcells ts).set (i * 3 + 2) c = tcells (ts.set i ⟨(ts.getD i t0).k, (ts.getD i t0).v, c⟩)
  | [], i, c, h => absurd h (by simp)
  | k :: ts, 0, c, _ => rfl
  | k :: ts, i + 1, c, h => by
    have := tcells_set ts i c (by simpa using h)
    rw [List.set_cons_succ]
    show ([k.k, k.v, k.c] ++ tcells ts).set _ c = [k.k, k.v, k.c] ++ _
    rw [show (i + 1) * 3 + 2 = (i * 3 + 2) + 3 by omega]
    simp only [List.cons_append, List.nil_append, List.set_cons_succ]
    rw [this]
    rfl
/-- a page in memory of the call's own; its lists of numbers have none of the blocks F. -/
structure TripAt (lo : Nat) (F : List Nat) (W : World) (t : Trip) (n : NdR) : Prop where
  k : OwnK lo W t.k n.ks
  v : OwnI lo W t.v n.vs
  c : OwnI lo W t.c n.kids
  fv : ∀ b ∈ F, t.v.ownBlock ≠ some b
  fc : ∀ b ∈ F, t.c.ownBlock ≠ some b
/-- a list of them. -/
def OwnNs (lo : Nat) (F : List Nat) (W : World) (v : Value) (l : List NdR) : Prop :=
  ∃ ts : List Trip, W.ownsRow lo 60 3 v l.length (tcells ts) ∧ ts.length = l.length ∧ ∀ i, i < l.length → TripAt lo F W (ts.getD i t0) (l.getD i n0)

/-- What keeps whatever is no list of pages and no variable that holds one. -/
structure KeepN (W W' : World) : Prop where
  os : W'.os = W.os
  tape : W'.tape = W.tape
  output : W'.output = W.output
  size : W.heap.size ≤ W'.heap.size
  block : ∀ (k : Nat) (cs : Array Value) (t : TypeId) (fr : Nat × Nat), W.heap[k]? = some (Obj.cells cs t fr) → t ≠ 51 → t ≠ 60 → W'.heap[k]? = W.heap[k]?
theorem KeepN.refl (W : World) : KeepN W W := ⟨rfl, rfl, rfl, Nat.le_refl _, fun _ _ _ _ _ _ _ => rfl⟩
theorem KeepN.trans {A B C : World} (h : KeepN A B) (k : KeepN B C) : KeepN A C :=
  ⟨k.os.trans h.os, k.tape.trans h.tape, k.output.trans h.output, Nat.le_trans h.size k.size, fun i cs t fr hi h1 h2 => by
    have e := h.block i cs t fr hi h1 h2
    exact (k.block i cs t fr (e.trans hi) h1 h2).trans e⟩
theorem Below.keepN {W W' : World} (h : Below W.heap.size W W') : KeepN W W' :=
  ⟨h.os, h.tape, h.output, h.size, fun k _ _ _ hk _ _ => h.block k (Array.getElem?_eq_some_iff.1 hk).1⟩
section
variable {W W' : World} {lo : Nat} {F : List Nat} {v : Value}
theorem KeepN.blk (h : KeepN W W') {g : Nat} {t : TypeId} {cs : Array Value} (hb : Blk W g t cs) (h1 : t ≠ 51) (h2 : t ≠ 60) : Blk W' g t cs := (h.block g cs t (0, 0) hb h1 h2).trans hb
theorem KeepN.row (h : KeepN W W') {g : Nat} {t : TypeId} {size n c : Nat} {xs : List Value} (hr : RowAt W g t size n c xs) (h1 : t ≠ 51) (h2 : t ≠ 60) : RowAt W' g t size n c xs :=
  ⟨hr.1, hr.2.1, fun hc => by obtain ⟨cur, a, b, c⟩ := hr.2.2 hc; exact ⟨cur, (h.block g cur t (0, 0) a h1 h2).trans a, b, c⟩⟩
theorem KeepN.page (h : KeepN W W') {p : Nat} {P : Pg} (hp : PageAt W p P) : PageAt W' p P :=
  ⟨h.blk hp.blk (by decide) (by decide), h.row hp.keys (by decide) (by decide), h.row hp.vals (by decide) (by decide), h.row hp.kids (by decide) (by decide)⟩
theorem OwnG.keepN {Good : Value → Prop} {e : TypeId} {size n : Nat} {xs : List Value} (h : OwnG Good W lo e size v n xs) (k : KeepN W W') (h1 : e ≠ 51) (h2 : e ≠ 60) : OwnG Good W' lo e size v n xs := by
  have key : ∀ g cur, W'.heap[g]? = some (.cells cur e (0, 0)) → g < W.heap.size → (∃ cs, W.heap[g]? = some (.cells cs e (0, 0))) → W.heap[g]? = some (.cells cur e (0, 0)) := fun g cur hg _ ⟨cs, hcs⟩ => by
    have := k.block g cs e (0, 0) hcs h1 h2
    rw [this] at hg
    exact hg
  refine ⟨?_, fun g c cur hv hg => ?_⟩
  · refine ⟨h.1.1, ?_⟩
    rcases h.1.2 with h' | ⟨g, cap, cur, a, b, c, d⟩
    · exact .inl h'
    · exact .inr ⟨g, cap, cur, a, b, (k.block g cur e (0, 0) c h1 h2).trans c, d⟩
  · rcases h.1.2 with ⟨h', _⟩ | ⟨g', cap, cur', a, b, c', d⟩
    · rw [h'] at hv; cases hv
    · rw [a] at hv
      cases hv
      exact h.2 g _ cur a (key g cur hg (Array.getElem?_eq_some_iff.1 c').1 ⟨cur', c'⟩)
theorem TripAt.keepN {t : Trip} {n : NdR} (h : TripAt lo F W t n) (k : KeepN W W') : TripAt lo F W' t n := ⟨h.k.keepN k (by decide) (by decide), h.v.keepN k (by decide) (by decide), h.c.keepN k (by decide) (by decide), h.fv, h.fc⟩
theorem TripAt.mono {F' : List Nat} {t : Trip} {n : NdR} (h : TripAt lo F W t n) (hF : ∀ b ∈ F', b ∈ F) : TripAt lo F' W t n := ⟨h.k, h.v, h.c, fun b hb => h.fv b (hF b hb), fun b hb => h.fc b (hF b hb)⟩
theorem OwnNs.on {l : List NdR} (h : OwnNs lo F W v l) (hb : Below W.heap.size W W') : OwnNs lo F W' v l := by
  obtain ⟨ts, h1, h2, h3⟩ := h
  exact ⟨ts, World.ownsRow.kept (row := none) h1 ⟨hb.os, hb.tape, hb.output, hb.size, fun k hk _ => hb.block k hk⟩ (by cases v.ownBlock <;> simp), h2, fun i hi => (h3 i hi).keepN (Below.keepN hb)⟩
theorem OwnNs.nil_ (lo : Nat) (F : List Nat) (W : World) : OwnNs lo F W (.slice none 0 0) [] := ⟨[], ⟨by simp [tcells], .inl ⟨rfl, rfl⟩⟩, rfl, fun i hi => absurd hi (by simp)⟩
theorem infoN : (Try.prog.info? 60).map (fun i => (i.zero, i.size, i.bytes)) = some (some (.agg #[.slice none 0 0, .slice none 0 0, .slice none 0 0]), 3, 72) := by kernel_rfl
theorem KeepN.grown {base : Nat} {n : Nat} {xs : List Value} (h : W.ownsRow base 60 3 v n xs) (hg : W.grownBy W' v.ownBlock) : KeepN W W' :=
  ⟨hg.os, hg.tape, hg.output, hg.size, fun k cs t fr hk _ h2 => hg.block k (Array.getElem?_eq_some_iff.1 hk).1 (fun e => by
    rcases h.2 with ⟨rfl, _⟩ | ⟨g, cap, cur, rfl, _, hgb, _⟩
    · cases e
    · obtain rfl : k = g := by simpa [Value.ownBlock] using e
      rw [hgb] at hk
      cases hk
      exact h2 rfl)⟩
theorem OwnK.one {ks : List Ky} (h : OwnK lo W v ks) : v.oneCell' = true := by
  rcases h.1.2 with ⟨rfl, _⟩ | ⟨g, cap, cur, rfl, _⟩ <;> rfl
theorem OwnI.one {xs : List Int} (h : OwnI lo W v xs) : v.oneCell' = true := by
  rcases h.1.2 with ⟨rfl, _⟩ | ⟨g, cap, cur, rfl, _⟩ <;> rfl
theorem OwnNs.mono {F' : List Nat} {l : List NdR} (h : OwnNs lo F W v l) (hF : ∀ b ∈ F', b ∈ F) : OwnNs lo F' W v l := by
  obtain ⟨ts, h1, h2, h3⟩ := h
  exact ⟨ts, h1, h2, fun i hi => (h3 i hi).mono hF⟩
/-- a page is appended. -/
theorem OwnNs.app {l : List NdR} {b : Nat} {t : Trip} {n : NdR} (h : OwnNs lo F W v l) (hlo : lo ≤ W.heap.size) (hl : l.length ≤ 1000000) (hb : Blk W b 60 #[t.k, t.v, t.c]) (ht : TripAt lo F W t n) :
    ∃ g c w', (Builtin.append_ #[51, 51] 51 #[v, .slice (some ⟨b, 0, none⟩) 1 1]).run Try.prog W = .ok (.slice (some ⟨g, 0, none⟩) (l.length + 1) c) w' ∧
      OwnNs lo F w' (.slice (some ⟨g, 0, none⟩) (l.length + 1) c) (l ++ [n]) ∧ W.grownBy w' v.ownBlock ∧ KeepN W w' ∧ (∀ w0, Below lo w0 W → Below lo w0 w') := by
  obtain ⟨i0, hi0, hz0, hz1, hz2⟩ := info_parts infoN
  obtain ⟨ts, h1, h2, h3⟩ := h
  obtain ⟨g, c, w', r1, r2, r3, _, _⟩ := run_append_lies (P := Try.prog) W 51 51 lo 60 i0 _ 3 72 Try.underlying51 hi0 hz0 hz1 hz2 rfl (by omega) v l.length (tcells ts) h1
    ⟨b, 0, none⟩ 1 1 [t.k, t.v, t.c] rfl (World.news_of_block hb) (fun u hu => by
      simp only [List.mem_cons, List.not_mem_nil, or_false] at hu
      rcases hu with rfl | rfl | rfl
      · exact OwnK.one ht.k
      · exact OwnI.one ht.v
      · exact OwnI.one ht.c) (by omega) (by unfold maxLen; omega) (by omega) hlo _ rfl
  have hk := KeepN.grown h1 r3
  refine ⟨g, c, w', r1, ⟨ts ++ [t], ?_, by simp [h2], fun i hi => ?_⟩, r3, hk, fun w0 hb0 => Below.grown hb0 r3 hlo (fun q hq => (World.ownsRow.lt h1 q hq).1)⟩
  · rw [tcells_app, List.length_append]
    exact r2
  · rw [List.length_append, List.length_singleton] at hi
    by_cases e : i < l.length
    · have := (h3 i e).keepN hk
      rw [getD_left (by omega), getD_left e]
      exact this
    · obtain rfl : i = l.length := by omega
      have := ht.keepN hk
      rw [getD_last h2.symm, getD_last rfl]
      exact this
/-- a page's kids are stored. -/
theorem OwnNs.kids {l : List NdR} {g c i : Nat} {u : Value} {xs : List Int} (h : OwnNs lo F W (.slice (some ⟨g, 0, none⟩) l.length c) l) (hi : i < l.length) (hu : OwnI lo W u xs) (huF : ∀ b ∈ F, u.ownBlock ≠ some b) :
    OwnNs lo F (W.setCell ⟨g, i * 3 + 2, none⟩ u) (.slice (some ⟨g, 0, none⟩) l.length c) (l.set i ⟨(l.getD i n0).ks, (l.getD i n0).vs, xs⟩) ∧ KeepN W (W.setCell ⟨g, i * 3 + 2, none⟩ u) ∧ lo ≤ g ∧ (∃ z, W.cell? ⟨g, i * 3 + 2, none⟩ = some z) ∧ W.frozen? ⟨g, i * 3 + 2, none⟩ = false := by
  obtain ⟨ts, h1, h2, h3⟩ := h
  have hr := World.ownsRow.stored h1 (i * 3 + 2) u
  rcases h1.2 with ⟨hv, _⟩ | ⟨g', cap, cur, hv, hg, hgb, hn, hm, hs, ht⟩
  · cases hv
  · cases hv
    have hb : Blk W g 60 cur := hgb
    have hk : KeepN W (W.setCell ⟨g, i * 3 + 2, none⟩ u) := ⟨rfl, rfl, rfl, by simp [World.setCell], fun k cs t fr hk _ h2 => Below.heap_setCell W _ u k (fun e => by
      have e : k = g := e
      subst e
      rw [hgb] at hk
      cases hk
      exact h2 rfl)⟩
    refine ⟨⟨ts.set i ⟨(ts.getD i t0).k, (ts.getD i t0).v, u⟩, ?_, by simp [h2], fun j hj => ?_⟩, hk, hg, ?_, hb.frozen _⟩
    · rw [← tcells_set ts i u (by omega), List.length_set]
      exact hr.1
    · rw [List.length_set] at hj
      by_cases e : j = i
      · subst e
        have h4 := (h3 j hj).keepN hk
        have h5 : OwnI lo (W.setCell ⟨g, j * 3 + 2, none⟩ u) u xs := hu.keepN hk (by decide) (by decide)
        simp only [List.getD_eq_getElem?_getD, List.getElem?_set_self hj, List.getElem?_set_self (show j < ts.length by omega), Option.getD_some]
        rw [← List.getD_eq_getElem?_getD, ← List.getD_eq_getElem?_getD]
        exact ⟨h4.k, h4.v, h5, h4.fv, huF⟩
      · simp only [List.getD_eq_getElem?_getD, List.getElem?_set_ne (Ne.symm e)]
        rw [← List.getD_eq_getElem?_getD, ← List.getD_eq_getElem?_getD]
        exact (h3 j hj).keepN hk
    · refine ⟨(ts.getD i t0).c, ?_⟩
      rw [World.ownsRow.cellAt h1 _ (by omega)]
      exact (tcells_at ts i (by omega)).2.2
/-- it reads as pages. -/
theorem OwnK.at_ {ks : List Ky} (h : OwnK lo W v ks) : KsAt W v ks := by
  rcases h.1.2 with ⟨rfl, h0⟩ | ⟨g, cap, cur, rfl, _, hg, hn, _⟩
  · exact ⟨none, 0, by rw [h0], by omega, fun hp => absurd hp (by omega)⟩
  · refine ⟨some ⟨g, 0, none⟩, cap, rfl, hn, fun hp => ⟨g, 0, rfl, (Array.getElem?_eq_some_iff.1 hg).1, fun i hi => ?_⟩⟩
    obtain ⟨c1, c2⟩ := kcells_at ks i hi
    rw [Nat.zero_add, World.ownsRow.cellAt h.1 _ (by omega), World.ownsRow.cellAt h.1 _ (by omega)]
    exact ⟨c1, c2⟩
theorem OwnI.at_ {xs : List Int} (h : OwnI lo W v xs) : IsAt W v xs := by
  rcases h.1.2 with ⟨rfl, h0⟩ | ⟨g, cap, cur, rfl, _, hg, hn, _⟩
  · exact ⟨none, 0, by rw [h0], by omega, fun hp => absurd hp (by omega)⟩
  · refine ⟨some ⟨g, 0, none⟩, cap, rfl, hn, fun hp => ⟨g, 0, rfl, (Array.getElem?_eq_some_iff.1 hg).1, fun i hi => ?_⟩⟩
    rw [Nat.zero_add, World.ownsRow.cellAt h.1 _ (by omega)]
    exact vcells_at xs i hi
theorem OwnNs.at_ {l : List NdR} (h : OwnNs lo F W v l) : NdsAt W v l := by
  obtain ⟨ts, h1, h2, h3⟩ := h
  rcases h1.2 with ⟨rfl, h0⟩ | ⟨g, cap, cur, rfl, _, hg, hn, _⟩
  · exact ⟨none, 0, by rw [h0], by omega, fun hp => absurd hp (by omega)⟩
  · refine ⟨some ⟨g, 0, none⟩, cap, rfl, hn, fun hp => ⟨g, 0, rfl, (Array.getElem?_eq_some_iff.1 hg).1, fun i hi => ?_⟩⟩
    obtain ⟨c1, c2, c3⟩ := tcells_at ts i (by omega)
    have ht := h3 i hi
    refine ⟨_, _, _, ?_, ?_, ?_, ht.k.at_, ht.v.at_, ht.c.at_⟩
    · rw [Nat.zero_add, World.ownsRow.cellAt h1 _ (by omega)]; exact c1
    · rw [Nat.zero_add, World.ownsRow.cellAt h1 _ (by omega)]; exact c2
    · rw [Nat.zero_add, World.ownsRow.cellAt h1 _ (by omega)]; exact c3
/-- a list that is made at once, of the call's own. -/
theorem own_new {t : TypeId} {size m c g : Nat} {news sp : List Value} (hb : Blk W g t (news ++ sp).toArray) (hlo : lo ≤ g) (hl : news.length = m * size) (hm : m ≤ c) (hc : c ≤ maxLen) (hs : (news ++ sp).length = c * size) (gn : ∀ u ∈ news, IntV u) (gs : ∀ u ∈ sp, IntV u) : OwnG IntV W lo t size (.slice (some ⟨g, 0, none⟩) m c) m news :=
  ⟨⟨hl, .inr ⟨g, c, _, rfl, hlo, hb, hm, hc, by simpa using hs, by rw [← hl]; simp⟩⟩, fun g' c' cur hv hg u hu => by
    cases hv
    rw [show W.heap[g]? = _ from hb] at hg
    cases hg
    rcases List.mem_append.1 (by simpa using hu) with h | h
    · exact gn u h
    · exact gs u h⟩
theorem OwnG.mono {Good : Value → Prop} {lo' : Nat} {e : TypeId} {size n : Nat} {xs : List Value} (h : OwnG Good W lo e size v n xs) (hl : lo' ≤ lo) : OwnG Good W lo' e size v n xs := by
  refine ⟨⟨h.1.1, ?_⟩, h.2⟩
  rcases h.1.2 with h' | ⟨g, cap, cur, a, b, c⟩
  · exact .inl h'
  · exact .inr ⟨g, cap, cur, a, Nat.le_trans hl b, c⟩
/-- a list of another type is as it was. -/
theorem OwnG.grown {Good : Value → Prop} {e : TypeId} {size n : Nat} {xs : List Value} {row : Option Nat} (h : OwnG Good W lo e size v n xs) (hg : W.grownBy W' row) (hne : v.ownBlock = none ∨ v.ownBlock ≠ row) : OwnG Good W' lo e size v n xs := by
  refine ⟨h.1.kept hg hne, fun g c cur hv hh => ?_⟩
  have hlt := (own_block_lt h.1 hv).2
  rw [hg.block g hlt (fun e => by
    rcases hne with h0 | h0
    · rw [hv] at h0; cases h0
    · exact h0 (by rw [hv]; exact e))] at hh
  exact h.2 g c cur hv hh
/-- a number is appended. -/
theorem OwnI.app {xs : List Int} (h : OwnI lo W v xs) (hlo : lo ≤ W.heap.size) (hl : xs.length ≤ 1000000) (x : Int) :
    ∃ g c w', (Builtin.append_ #[58, 58] 58 #[v, .slice (some ⟨W.heap.size, 0, none⟩) 1 1]).run Try.prog (W.alloc (.cells #[.int .i64 x] 3)) = .ok (.slice (some ⟨g, 0, none⟩) (xs.length + 1) c) w' ∧
      OwnI lo w' (.slice (some ⟨g, 0, none⟩) (xs.length + 1) c) (xs ++ [x]) ∧ (W.alloc (.cells #[.int .i64 x] 3)).grownBy w' v.ownBlock ∧ (v.ownBlock = some g ∨ g = W.heap.size + 1) := by
  obtain ⟨i0, hi0, hz0, hz1, hz2⟩ := info_parts infoI
  have hb := Blk.new W 3 #[.int .i64 x]
  have ho := h.alloc (.cells #[.int .i64 x] 3)
  obtain ⟨g, c, w', r1, r2, r3, r4, _⟩ := run_append_lies (P := Try.prog) (W.alloc (.cells #[.int .i64 x] 3)) 58 58 lo 3 i0 _ 1 8 Try.underlying58 hi0 hz0 hz1 hz2 rfl (by omega) v xs.length (vcells xs) ho.1
    ⟨W.heap.size, 0, none⟩ 1 1 [.int .i64 x] rfl (World.news_of_block hb) (by simp [Value.oneCell']) (by omega) (by unfold maxLen; omega) (by omega) (by simp; omega) (W.heap.size + 1) (by simp)
  obtain ⟨v', w2, s1, s2, s3⟩ := run_append_G (P := Try.prog) (W.alloc (.cells #[.int .i64 x] 3)) IntV lo 58 58 3 i0 _ 1 8 Try.underlying58 hi0 hz0 hz1 hz2 rfl (by omega) v xs.length (vcells xs) ho
    ⟨W.heap.size, 0, none⟩ 1 1 [.int .i64 x] rfl (World.news_of_block hb) (by simp [Value.oneCell']) (by unfold maxLen; omega) (by omega) (by simp; omega)
    (fun u hu => by
      simp only [Value.cells, List.mem_cons, List.not_mem_nil, or_false] at hu
      subst hu
      exact ⟨_, rfl⟩) (fun u hu => by
      simp only [List.mem_cons, List.not_mem_nil, or_false] at hu
      subst hu
      exact ⟨_, rfl⟩) (fun u hu => by
      unfold vcells at hu
      rw [List.mem_map] at hu
      obtain ⟨k, _, rfl⟩ := hu
      exact ⟨_, rfl⟩)
  have e := r1.symm.trans s1
  injection e with e1 e2
  subst e1 e2
  refine ⟨g, c, w', r1, ?_, r3, r4⟩
  unfold OwnI
  rw [List.length_append, show vcells (xs ++ [x]) = vcells xs ++ [.int .i64 x] by simp [vcells]]
  exact s2
/-- a list of numbers that no page has grew. -/
theorem OwnNs.grown {l : List NdR} {b : Nat} {cs : Array Value} {F' : List Nat} (h : OwnNs lo F W v l) (hb : Blk W b 3 cs) (hF : b ∈ F) (hg : W.grownBy W' (some b)) (hF' : ∀ q ∈ F', q ∈ F ∨ W.heap.size ≤ q) : OwnNs lo F' W' v l := by
  obtain ⟨ts, h1, h2, h3⟩ := h
  have hlt := hb.lt
  refine ⟨ts, World.ownsRow.kept h1 hg ?_, h2, fun i hi => ?_⟩
  · rcases h1.2 with ⟨rfl, _⟩ | ⟨g, cap, cur, rfl, _, hgb, _⟩
    · exact .inl rfl
    · refine .inr (fun e => ?_)
      obtain rfl : g = b := by simpa [Value.ownBlock] using e
      exact absurd (blk_type hgb hb) (by decide)
  · have ht := h3 i hi
    have key : ∀ {u : Value} {xs : List Int}, OwnI lo W u xs → (∀ q ∈ F, u.ownBlock ≠ some q) → ∀ q ∈ F', u.ownBlock ≠ some q := fun {u xs} hu hf q hq e => by
      rcases hF' q hq with hq | hq
      · exact hf q hq e
      · have := (hu.1.lt q e).2
        omega
    refine ⟨ht.k.grown hg ?_, ht.v.grown hg (.inr (ht.fv b hF)), ht.c.grown hg (.inr (ht.fc b hF)), key ht.v ht.fv, key ht.c ht.fc⟩
    rcases ht.k.1.2 with ⟨e, _⟩ | ⟨g, cap, cur, e, _, hgb, _⟩
    · exact .inl (by rw [e]; rfl)
    · refine .inr (fun e2 => ?_)
      rw [e] at e2
      obtain rfl : g = b := by simpa [Value.ownBlock] using e2
      exact absurd (blk_type hgb hb) (by decide)
/-- it is as it was; new blocks besides. -/
theorem OwnNs.more {l : List NdR} {F' : List Nat} (h : OwnNs lo F W v l) (hb : Below W.heap.size W W') (hF' : ∀ q ∈ F', q ∈ F ∨ W.heap.size ≤ q) : OwnNs lo F' W' v l := by
  obtain ⟨ts0, k1, k2, k3⟩ := h
  refine ⟨ts0, World.ownsRow.kept (row := none) k1 ⟨hb.os, hb.tape, hb.output, hb.size, fun k hk _ => hb.block k hk⟩ (by cases v.ownBlock <;> simp), k2, fun i hi => ?_⟩
  have ht := k3 i hi
  have hk := ht.keepN (Below.keepN hb)
  have key : ∀ {u : Value} {xs : List Int}, OwnI lo W u xs → (∀ q ∈ F, u.ownBlock ≠ some q) → ∀ q ∈ F', u.ownBlock ≠ some q := fun {u xs} hu hf q hq e => by
    rcases hF' q hq with hq | hq
    · exact hf q hq e
    · have := (hu.1.lt q e).2
      omega
  exact ⟨hk.k, hk.v, hk.c, key ht.v ht.fv, key ht.c ht.fc⟩
end
end Go.Proofs.Ytmmikolcipcldaa
