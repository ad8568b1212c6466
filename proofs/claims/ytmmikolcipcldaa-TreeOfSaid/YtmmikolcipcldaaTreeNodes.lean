/-
  What is proved here: a page and all under it are laid as pages by number (the closure of Nodes). Conditions: each theorem's own.
-/
import Derived.Test.YtmmikolcipcldaaTreeOwnN
import Derived.Test.YtmmikolcipcldaaFHeld
import Derived.TacticsInMore
namespace Go.Proofs.Ytmmikolcipcldaa
open Go.RowKit Go.Deep
attribute [local go_sem ↓ high] appK_eq appI_eq

section
variable {W W' : World} {lo lb ob : Nat} {F : List Nat} {v : Value} {l : List NdR} {M : Nat → Option Pg} {w0 : World}
theorem kcells_int (ks : List Ky) : ∀ u ∈ kcells ks, IntV u := fun u hu => by
  unfold kcells at hu
  rw [List.mem_flatMap] at hu
  obtain ⟨k, _, hk⟩ := hu
  simp only [Ky.cells, List.mem_cons, List.not_mem_nil, or_false] at hk
  rcases hk with rfl | rfl
  · exact ⟨_, rfl⟩
  · exact ⟨_, rfl⟩
theorem vcells_int (vs : List Int) : ∀ u ∈ vcells vs, IntV u := fun u hu => by
  unfold vcells at hu
  rw [List.mem_map] at hu
  obtain ⟨k, _, rfl⟩ := hu
  exact ⟨_, rfl⟩
theorem zeros_int {z : Array Value} {n : Nat} (hz : ∀ u ∈ z.toList, IntV u) : ∀ u ∈ (Builtin.zeroCells z n).toList, IntV u := fun u hu => hz u (mem_zeroCells hu)
theorem zeros_len (z : Array Value) (n : Nat) : (Builtin.zeroCells z n).toList.length = n * z.size := by rw [Array.length_toList, size_zeroCells]
theorem lenK {w : World} {m n : Nat} {ks : List Ky} (hl : m = ks.length) (hn : n = grownCap w m 0 24) : (kcells ks ++ (Builtin.zeroCells #[.int .i64 0, .int .i64 0] (grownCap w m 0 24 - m)).toList).length = n * 2 := by
  subst hl hn
  have hge := grownCap_ge w ks.length 0 24
  rw [List.length_append, kcells_len, zeros_len]
  show _ + _ * 2 = _
  omega
theorem lenI {w : World} {m n : Nat} {vs : List Int} (hl : m = vs.length) (hn : n = grownCap w m 0 3) : (vcells vs ++ (Builtin.zeroCells #[.int .i64 0] (grownCap w m 0 3 - m)).toList).length = n * 1 := by
  subst hl hn
  have hge := grownCap_ge w vs.length 0 3
  rw [List.length_append, zeros_len, show (vcells vs).length = vs.length by simp [vcells]]
  show _ + _ * 1 = _
  omega
theorem trip_new {b1 b2 n1 n2 c1 c2 : Nat} {w1 w2 : World} {ks : List Ky} {vs : List Int} (hk : Blk W b1 24 (kcells ks ++ (Builtin.zeroCells #[.int .i64 0, .int .i64 0] (grownCap w1 n1 0 24 - n1)).toList).toArray) (hv : Blk W b2 3 (vcells vs ++ (Builtin.zeroCells #[.int .i64 0] (grownCap w2 n2 0 3 - n2)).toList).toArray)
    (e1 : n1 = ks.length) (e2 : n2 = vs.length) (e3 : c1 = grownCap w1 n1 0 24) (e4 : c2 = grownCap w2 n2 0 3) (r1 : lo ≤ b1) (r2 : lo ≤ b2) (m1 : n1 ≤ 1000) (m2 : n2 ≤ 1000) (hF : ∀ b ∈ F, b < b2) :
    TripAt lo F W ⟨.slice (some ⟨b1, 0, none⟩) n1 c1, .slice (some ⟨b2, 0, none⟩) n2 c2, .slice none 0 0⟩ ⟨ks, vs, []⟩ := by
  refine ⟨?_, ?_, OwnG.nil_ _ _ _ _, fun b hb e => ?_, fun b hb e => (by cases e)⟩
  · subst e1
    exact own_new hk r1 (kcells_len _) (by rw [e3]; exact grownCap_ge _ _ _ _) (by rw [e3]; exact grownCap_le_maxLen _ _ _ _ (by unfold maxLen; omega)) (lenK rfl e3) (kcells_int _) (zeros_int (fun u hu => by
      simp only [List.mem_cons, List.not_mem_nil, or_false] at hu
      rcases hu with rfl | rfl <;> exact ⟨_, rfl⟩))
  · subst e2
    exact own_new hv r2 (by simp [vcells]) (by rw [e4]; exact grownCap_ge _ _ _ _) (by rw [e4]; exact grownCap_le_maxLen _ _ _ _ (by unfold maxLen; omega)) (lenI rfl e4) (vcells_int _) (zeros_int (fun u hu => by
      simp only [List.mem_cons, List.not_mem_nil, or_false] at hu
      subst hu
      exact ⟨_, rfl⟩))
  · have := hF b hb
    obtain rfl : b2 = b := by simpa [Value.ownBlock] using e
    omega
theorem wpIn_app_node {Fe : Fence} {m : Nat} {o : Oper} {a : Act} {K : Act → World → Prop} {Q : Exit → Act → World → Prop} (s x : Operand) (ho : o.op = .call { callee := .builtin .append, args := #[s, x], argTypes := #[51, 51] }) (hty : o.type = 51)
    {b : Nat} {n : NdR} (hs : a.eval s = v) (hx : a.eval x = .slice (some ⟨b, 0, none⟩) 1 1) {kv vv cv : Value} (hb : Blk W b 60 #[kv, vv, cv]) (ht : TripAt lo F W ⟨kv, vv, cv⟩ n) (h : OwnNs lo F W v l) (hlo : lo ≤ W.heap.size) (hl : l.length ≤ 1000000)
    (hK : ∀ g c w', OwnNs lo F w' (.slice (some ⟨g, 0, none⟩) (l.length + 1) c) (l ++ [n]) → W.grownBy w' v.ownBlock → KeepN W w' → (∀ w0, Below lo w0 W → Below lo w0 w') → K (a.put o.dst (.slice (some ⟨g, 0, none⟩) (l.length + 1) c)) w') : Oper.wpIn Fe m Try.prog o a W K Q := by
  obtain ⟨g, c, w', r, h1, h2, h3, h4⟩ := h.app (t := ⟨kv, vv, cv⟩) hlo hl hb ht
  rw [← hty] at r
  exact wpIn_append_run s x 51 ho hs hx (by rw [hty] at r ⊢; exact r) (hK g c w' h1 h2 h3 h4)
theorem OwnNs.form (h : OwnNs lo F W v l) : ∃ A c, v = .slice A l.length c := by
  obtain ⟨ts, h1, _, _⟩ := h
  rcases h1.2 with ⟨rfl, h0⟩ | ⟨g, cap, cur, rfl, _⟩
  · exact ⟨none, 0, by rw [h0]⟩
  · exact ⟨_, cap, rfl⟩
theorem OwnI.form {xs : List Int} (h : OwnI lo W v xs) : ∃ A c, v = .slice A xs.length c := by
  rcases h.1.2 with ⟨rfl, h0⟩ | ⟨g, cap, cur, rfl, _⟩
  · exact ⟨none, 0, by rw [h0]⟩
  · exact ⟨_, cap, rfl⟩
theorem OwnNs.apart (h : OwnNs lo F W v l) {b : Nat} {u : Value} (hb : Blk W b 51 #[u]) : some b ≠ v.ownBlock := fun e => by
  obtain ⟨ts, h1, _, _⟩ := h
  rcases h1.2 with ⟨rfl, _⟩ | ⟨g, cap, cur, rfl, _, hg, _⟩
  · cases e
  · obtain rfl : b = g := by simpa [Value.ownBlock] using e
    exact absurd (blk_type hb hg) (by decide)
/-- what the closure finds. -/
structure LayIn (w0 : World) (M : Nat → Option Pg) (lb ob : Nat) (F : List Nat) (l : List NdR) (W : World) : Prop where
  old : ∀ {p P}, M p = some P → PageAt w0 p P
  box : ∃ v, Blk W lb 51 #[v] ∧ OwnNs w0.heap.size F W v l
  fn : Blk W ob 83 #[.func (.func 37) #[] #[.pointer (some ⟨lb, 0, none⟩), .pointer (some ⟨ob, 0, none⟩)]]
  low : Below w0.heap.size w0 W
  lo2 : w0.heap.size ≤ lb
  fr : ∀ b ∈ F, b < W.heap.size
theorem LayIn.page (h : LayIn w0 M lb ob F l W) {p : Nat} {P : Pg} (hp : M p = some P) : PageAt W p P := (h.old hp).on h.low
theorem KeepN.setBox {b : Nat} {u : Value} (hb : Blk W b 51 #[u]) (z : Value) : KeepN W (W.setCell ⟨b, 0, none⟩ z) :=
  ⟨rfl, rfl, rfl, by simp [World.setCell], fun k cs t fr hk h1 _ => Below.heap_setCell W _ z k (fun e => by
    have e : k = b := e
    subst e
    rw [show W.heap[k]? = _ from hb] at hk
    cases hk
    exact h1 rfl)⟩
/-- an own list is as it was where its variable is stored. -/
theorem OwnNs.setBox (h : OwnNs lo F W v l) {b : Nat} {u : Value} (hb : Blk W b 51 #[u]) (z : Value) : OwnNs lo F (W.setCell ⟨b, 0, none⟩ z) v l := by
  have hk := KeepN.setBox hb z
  have ha := h.apart hb
  obtain ⟨ts, h1, h2, h3⟩ := h
  refine ⟨ts, World.ownsRow.kept (row := some b) h1 ⟨rfl, rfl, rfl, by simp [World.setCell], fun k _ hne => Below.heap_setCell W _ z k (fun e => hne (by rw [e]))⟩ (.inr (fun e => ha e.symm)), h2, fun i hi => (h3 i hi).keepN hk⟩
theorem boxAt {wx w' : World} (hb : Below W.heap.size W wx) (hv : Blk W lb 51 #[v]) (hgr : wx.grownBy w' v.ownBlock) (hv2 : OwnNs lo F W v l) : Blk w' lb 51 #[v] := by
  have hbx : Blk wx lb 51 #[v] := hv.below hb hv.lt
  exact (hgr.block lb hbx.lt ((hv2.on hb).apart hbx)).trans hbx
/-- a page was appended, the variable stored. -/
theorem LayIn.grown {n : NdR} {wx w' : World} {g c : Nat} (h : LayIn w0 M lb ob F l W) (hb : Below W.heap.size W wx) (hv : Blk W lb 51 #[v]) (hk : KeepN wx w') (hgr : wx.grownBy w' v.ownBlock) (hv2 : OwnNs w0.heap.size F W v l) (ho : OwnNs w0.heap.size F w' (.slice (some ⟨g, 0, none⟩) (l.length + 1) c) (l ++ [n])) (hlow : Below w0.heap.size w0 w') {u : Value} (hu : u = .slice (some ⟨g, 0, none⟩) (l.length + 1) c) :
    LayIn w0 M lb ob F (l ++ [n]) (w'.setCell ⟨lb, 0, none⟩ u) ∧ KeepN W (w'.setCell ⟨lb, 0, none⟩ u) := by
  subst hu
  have hb' := boxAt hb hv hgr hv2
  have k1 := KeepN.setBox hb' (.slice (some ⟨g, 0, none⟩) (l.length + 1) c)
  have k2 := ((Below.keepN hb).trans hk).trans k1
  exact ⟨⟨h.old, ⟨_, Blk.set_ hb' 0 _, ho.setBox hb' _⟩, k2.blk h.fn (by decide) (by decide), hlow.setCell h.lo2 _, h.lo2, fun b hb => Nat.lt_of_lt_of_le (h.fr b hb) k2.size⟩, k2⟩
/-- a number was appended to a list of the call's own. -/
theorem LayIn.appended {u : Value} {xs ys : List Int} {base g n c : Nat} {w' : World} {o : Obj} (h : LayIn w0 M lb ob (u.ownBlock.toList ++ F) l W) (hu : OwnI base W u xs) (h1 : w0.heap.size ≤ base) (hg : (W.alloc o).grownBy w' u.ownBlock) (hat : u.ownBlock = some g ∨ g = W.heap.size + 1) (hown : OwnI base w' (.slice (some ⟨g, 0, none⟩) n c) ys) :
    LayIn w0 M lb ob ([g] ++ F) l w' ∧ (∀ W0, KeepN W0 W → W0.heap.size ≤ base → KeepN W0 w') := by
  have hba : Below W.heap.size W (W.alloc o) := (Below.refl _ _).alloc (Nat.le_refl _) _
  have hlow : Below w0.heap.size w0 w' := (h.low.alloc h.low.size o).grown hg (by have := h.low.size; simp; omega) (fun q hq => by have := (hu.1.lt q hq).1; omega)
  have hsz := hg.size
  have hsz0 : W.heap.size + 1 ≤ w'.heap.size := by simpa using hsz
  have hgl := hown.1.lt g rfl
  obtain ⟨v, hb, hv⟩ := h.box
  have hb1 : Blk (W.alloc o) lb 51 #[v] := hb.below hba hb.lt
  have hf1 := h.fn.below hba h.fn.lt
  have hmem : ∀ q ∈ [g] ++ F, q ∈ u.ownBlock.toList ++ F ∨ W.heap.size ≤ q := fun q hq => by
    rcases List.mem_append.1 hq with hq | hq
    · obtain rfl : q = g := by simpa using hq
      rcases hat with e | e
      · exact .inl (List.mem_append_left _ (by rw [e]; simp))
      · exact .inr (by omega)
    · exact .inl (List.mem_append_right _ hq)
  have hfr : ∀ q ∈ [g] ++ F, q < w'.heap.size := fun q hq => by
    rcases List.mem_append.1 hq with hq | hq
    · obtain rfl : q = g := by simpa using hq
      exact hgl.2
    · have := h.fr q (List.mem_append_right _ hq)
      omega
  cases hub : u.ownBlock with
  | none =>
    rw [hub] at hg
    have hbb : Below W.heap.size W w' := hba.grown hg (by simp) (fun q hq => by cases hq)
    exact ⟨⟨h.old, ⟨v, hb.below hbb hb.lt, hv.more hbb hmem⟩, h.fn.below hbb h.fn.lt, hlow, h.lo2, hfr⟩, fun W0 hk _ => hk.trans (Below.keepN hbb)⟩
  | some b =>
    obtain ⟨cs, hcs⟩ : ∃ cs, Blk W b 3 cs := by
      rcases hu.1.2 with ⟨rfl, _⟩ | ⟨g', cap, cur, rfl, _, hgb, _⟩
      · cases hub
      · obtain rfl : g' = b := by simpa [Value.ownBlock] using hub
        exact ⟨cur, hgb⟩
    rw [hub] at hg
    have hcs1 : Blk (W.alloc o) b 3 cs := hcs.below hba hcs.lt
    have hbase := (hu.1.lt b hub).1
    have ne1 : some lb ≠ some b := fun e => by
      cases e
      exact absurd (blk_type hb hcs) (by decide)
    have ne2 : some ob ≠ some b := fun e => by
      cases e
      exact absurd (blk_type h.fn hcs) (by decide)
    refine ⟨⟨h.old, ⟨v, (hg.block lb hb1.lt ne1).trans hb1, ?_⟩, (hg.block ob hf1.lt ne2).trans hf1, hlow, h.lo2, hfr⟩, fun W0 hk hl => ?_⟩
    · refine (hv.more hba (F' := u.ownBlock.toList ++ F) (fun q hq => .inl hq)).grown hcs1 (List.mem_append_left _ (by rw [hub]; simp)) hg (fun q hq => ?_)
      rcases List.mem_append.1 hq with hq | hq
      · obtain rfl : q = g := by simpa using hq
        rcases hat with e | e
        · exact .inl (List.mem_append_left _ (by rw [e]; simp))
        · exact .inr (by simp; omega)
      · exact .inl (List.mem_append_right _ hq)
    · have hk1 := hk.trans (Below.keepN hba)
      exact ⟨hg.os.trans hk1.os, hg.tape.trans hk1.tape, hg.output.trans hk1.output, Nat.le_trans hk1.size hg.size, fun k cs t fr hh h1 h2 => by
        have hlt := (Array.getElem?_eq_some_iff.1 hh).1
        have e := hk1.block k cs t fr hh h1 h2
        exact (hg.block k (Nat.lt_of_lt_of_le hlt hk1.size) (fun e => by
          cases e
          omega)).trans e⟩
/-- the page's kids were stored. -/
theorem LayIn.stored {u : Value} {xs : List Int} {i : Nat} {A : Option Addr} {c : Nat} (h : LayIn w0 M lb ob (u.ownBlock.toList ++ F) l W) (hb : Blk W lb 51 #[.slice A l.length c]) (hv : OwnNs w0.heap.size (u.ownBlock.toList ++ F) W (.slice A l.length c) l) (hu : OwnI w0.heap.size W u xs) (hi : i < l.length) (hF : ∀ b ∈ F, u.ownBlock ≠ some b) :
    ∃ g, A = some ⟨g, 0, none⟩ ∧ (∃ z, W.cell? ⟨g, i * 3 + 2, none⟩ = some z) ∧ W.frozen? ⟨g, i * 3 + 2, none⟩ = false ∧ LayIn w0 M lb ob F (l.set i ⟨(l.getD i n0).ks, (l.getD i n0).vs, xs⟩) (W.setCell ⟨g, i * 3 + 2, none⟩ u) ∧ KeepN W (W.setCell ⟨g, i * 3 + 2, none⟩ u) := by
  obtain ⟨ts, h1, _, _⟩ := id hv
  rcases h1.2 with ⟨_, h0⟩ | ⟨g, cap, cur, e, _, hgb, _⟩
  · omega
  · cases e
    obtain ⟨k1, k2, k3, k4, k5⟩ := (hv.mono (F' := F) (fun b hb => List.mem_append_right _ hb)).kids hi hu hF
    refine ⟨g, rfl, k4, k5, ⟨h.old, ⟨.slice (some ⟨g, 0, none⟩) l.length c, ?_, k1⟩, k2.blk h.fn (by decide) (by decide), h.low.setCell k3 _, h.lo2, fun b hb => Nat.lt_of_lt_of_le (h.fr b (List.mem_append_right _ hb)) k2.size⟩, k2⟩
    have ne : lb ≠ g := fun e => by
      rw [e] at hb
      exact absurd (blk_type hb hgb) (by decide)
    exact (Below.heap_setCell W _ u lb (fun e => ne e)).trans hb
end
def LayOut (w0 : World) (M : Nat → Option Pg) (lb ob : Nat) (F : List Nat) (l r : List NdR) (W : World) (e : Ending) (W' : World) : Prop := e = .returned (.int .i64 l.length) ∧ LayIn w0 M lb ob F (l ++ r) W' ∧ KeepN W W'

set_option maxRecDepth 100000 in
set_option maxHeartbeats 4000000 in
theorem lay_node {M : Nat → Option Pg} {lb ob p : Nat} {F : List Nat} {w0 W : World} {P : Pg} {l : List NdR} (g : Nat → Nat → List NdR) (hP : M p = some P) (hv : P.vs.length = P.ks.length) (h1 : 1 ≤ P.ks.length) (h2 : P.ks.length ≤ 31) (h3 : P.kids.length ≤ 1000) (hin : LayIn w0 M lb ob F l W)
    (hroom : l.length + 1 + (nodesTo g (l.length + 1) P.kids P.kids.length).length ≤ 1000000)
    (hkid : ∀ i, i < P.kids.length → ∀ F' l' W', LayIn w0 M lb ob F' l' W' → l'.length + (g (P.kids.getD i 0) l'.length).length ≤ 1000000 →
      Calls Try.prog 37 #[.pointer (some ⟨P.kids.getD i 0, 0, none⟩), .pointer (some ⟨lb, 0, none⟩), .pointer (some ⟨ob, 0, none⟩)] W' (LayOut w0 M lb ob F' l' (g (P.kids.getD i 0) l'.length) W')) :
    Calls Try.prog 37 #[.pointer (some ⟨p, 0, none⟩), .pointer (some ⟨lb, 0, none⟩), .pointer (some ⟨ob, 0, none⟩)] W (LayOut w0 M lb ob F l (⟨P.ks, P.vs, idxTo g (l.length + 1) P.kids P.kids.length⟩ :: nodesTo g (l.length + 1) P.kids P.kids.length) W) := by
  have hp := hin.page hP
  obtain ⟨v, hb, ho⟩ := hin.box
  obtain ⟨A, cc, rfl⟩ := ho.form
  have c0 : W.cell? ⟨lb, 0, none⟩ = some (.slice A l.length cc) := hb.cell 0
  have hck := hp.keys.pos h1
  have hcv := hp.vals.pos (by omega)
  obtain ⟨iK, hiK, hzK, hsK, hbK⟩ := info_parts infoK
  obtain ⟨iI, hiI, hzI, hsI, hbI⟩ := info_parts infoI
  have hA1 : ∀ (z : Nat) (X : World), Below W.heap.size W X → (appK #[.slice (some ⟨z, 0, none⟩) 0 0, .slice (some ⟨P.gk, 0, none⟩) P.ks.length P.ck]).run Try.prog X = .ok (.slice (some ⟨X.heap.size, 0, none⟩) P.ks.length (grownCap X P.ks.length 0 24)) (X.drew.alloc (.cells ((kcells P.ks) ++ (Builtin.zeroCells (Value.agg #[.int .i64 0, .int .i64 0]).cells (grownCap X P.ks.length 0 24 - P.ks.length)).toList).toArray 24)) := fun z X hX =>
    run_append_empty X _ _ 24 iK _ 2 16 Try.underlying39 hiK hzK hsK hbK ⟨z, 0, none⟩ ⟨P.gk, 0, none⟩ P.ks.length _ (by omega) (kcells P.ks) (kcells_len _) ((hp.on hX).keys.from_ hck 0) (by unfold maxLen; omega) (by omega)
  have hA2 : ∀ (z : Nat) (X : World), Below W.heap.size W X → (appI #[.slice (some ⟨z, 0, none⟩) 0 0, .slice (some ⟨P.gv, 0, none⟩) P.vs.length P.cv]).run Try.prog X = .ok (.slice (some ⟨X.heap.size, 0, none⟩) P.vs.length (grownCap X P.vs.length 0 3)) (X.drew.alloc (.cells ((vcells P.vs) ++ (Builtin.zeroCells (Value.int .i64 0).cells (grownCap X P.vs.length 0 3 - P.vs.length)).toList).toArray 3)) := fun z X hX =>
    run_append_empty X _ _ 3 iI _ 1 8 Try.underlying58 hiI hzI hsI hbI ⟨z, 0, none⟩ ⟨P.gv, 0, none⟩ P.vs.length _ (by omega) (vcells P.vs) (by simp [vcells]) ((hp.on hX).vals.from_ hcv 0) (by unfold maxLen; omega) (by omega)
  have HS2 := Lib.hid (show ∀ X, Below W.heap.size W X → (X.cell? ⟨lb, 0, none⟩ = some (.slice A l.length cc) ∧ X.cell? ⟨p, 0, none⟩ = some (.slice (some ⟨P.gk, 0, none⟩) P.ks.length P.ck) ∧ X.cell? ⟨p, 1, none⟩ = some (.slice (some ⟨P.gv, 0, none⟩) P.vs.length P.cv) ∧ Below W.heap.size W X ∧ (∀ z, (appK #[.slice (some ⟨z, 0, none⟩) 0 0, .slice (some ⟨P.gk, 0, none⟩) P.ks.length P.ck]).run Try.prog X = .ok (.slice (some ⟨X.heap.size, 0, none⟩) P.ks.length (grownCap X P.ks.length 0 24)) (X.drew.alloc (.cells ((kcells P.ks) ++ (Builtin.zeroCells (Value.agg #[.int .i64 0, .int .i64 0]).cells (grownCap X P.ks.length 0 24 - P.ks.length)).toList).toArray 24))) ∧ (∀ z, (appI #[.slice (some ⟨z, 0, none⟩) 0 0, .slice (some ⟨P.gv, 0, none⟩) P.vs.length P.cv]).run Try.prog X = .ok (.slice (some ⟨X.heap.size, 0, none⟩) P.vs.length (grownCap X P.vs.length 0 3)) (X.drew.alloc (.cells ((vcells P.vs) ++ (Builtin.zeroCells (Value.int .i64 0).cells (grownCap X P.vs.length 0 3 - P.vs.length)).toList).toArray 3)))) from fun X hX => ⟨by rw [hX.cell (p := ⟨lb, 0, none⟩) hb.lt]; exact c0, by rw [(hp.on hX).blk.cell 0]; exact congrArg some (sl_pos _ _ _ hck), by rw [(hp.on hX).blk.cell 1]; exact congrArg some (sl_pos _ _ _ hcv), hX, fun z => hA1 z X hX, fun z => hA2 z X hX⟩)
  have HIN := Lib.hid hin
  have HB := Lib.hid (And.intro hb ho)
  have HP := Lib.hid (And.intro hP (And.intro hv (And.intro h1 (And.intro h2 h3))))
  have HRM := Lib.hid hroom
  have HKID := Lib.hid hkid
  clear hA1 hA2 hiK hzK hsK hbK hiI hzI hsI hbI hin hb ho hP hv h1 h2 h3 hroom hkid hp hck hcv
  go_enter Try.func37, Try.ntmps37
  go_upto_region 2 with fail
  go_cut [] (fun wz => LayIn w0 M lb ob F (l ++ [⟨P.ks, P.vs, []⟩]) wz ∧ KeepN W wz)
  case first =>
    clear c0
    have hlo1 := HIN.out.low.size
    have hfr := HIN.out.fr
    have hks := HP.out.2.2.2.1
    have hvs : P.vs.length ≤ 31 := by have := HP.out.2.1; omega
    have hll : l.length ≤ 999999 := by have := HRM.out; omega
    refine (wpIn_wide (n := 0)).1 ?_
    refine anyS_region (S := (fun X => X.cell? ⟨lb, 0, none⟩ = some (.slice A l.length cc) ∧ X.cell? ⟨p, 0, none⟩ = some (.slice (some ⟨P.gk, 0, none⟩) P.ks.length P.ck) ∧ X.cell? ⟨p, 1, none⟩ = some (.slice (some ⟨P.gv, 0, none⟩) P.vs.length P.cv) ∧ Below W.heap.size W X ∧ (∀ z, (appK #[.slice (some ⟨z, 0, none⟩) 0 0, .slice (some ⟨P.gk, 0, none⟩) P.ks.length P.ck]).run Try.prog X = .ok (.slice (some ⟨X.heap.size, 0, none⟩) P.ks.length (grownCap X P.ks.length 0 24)) (X.drew.alloc (.cells ((kcells P.ks) ++ (Builtin.zeroCells (Value.agg #[.int .i64 0, .int .i64 0]).cells (grownCap X P.ks.length 0 24 - P.ks.length)).toList).toArray 24))) ∧ (∀ z, (appI #[.slice (some ⟨z, 0, none⟩) 0 0, .slice (some ⟨P.gv, 0, none⟩) P.vs.length P.cv]).run Try.prog X = .ok (.slice (some ⟨X.heap.size, 0, none⟩) P.vs.length (grownCap X P.vs.length 0 3)) (X.drew.alloc (.cells ((vcells P.vs) ++ (Builtin.zeroCells (Value.int .i64 0).cells (grownCap X P.vs.length 0 3 - P.vs.length)).toList).toArray 3))))) 15 (by kernel_rfl) ?_ (fun hHeld => ?_)
    · exact HS2.out _ (by (repeat (first | (with_reducible assumption) | (with_reducible exact Below.refl _ _) | ((with_reducible refine Below.setCell ?_ ?_ _); rotate_left; · (first | omega | (simp; done) | (simp; omega) | (simp at *; omega))) | ((with_reducible refine Below.alloc ?_ ?_ _); rotate_left; · (first | omega | (simp; done) | (simp; omega) | (simp at *; omega))) | (with_reducible refine Below.drew ?_) | (with_reducible refine below_drewN ?_ _) | ((refine Below.trans ?_ (Below.mono (by with_reducible assumption) ?_)); rotate_left; · (first | omega | (simp; done) | (simp; omega) | (simp at *; omega))))))
    refine anyS_take (i := 0) (v := ?_) (by (simp only [List.getElem?_toArray, List.getElem?_cons_zero]); exact rfl) (by kernel_rfl) (by kernel_rfl) (by kernel_rfl) (by kernel_rfl) (by decide) (by intro _ _ _ h; exact h) (Or.inl ⟨by rfl, ?_⟩) (by assumption) ?_
    rotate_left
    · (intro w hSw; (try dsimp only at hSw); go_simp; (try with_reducible rfl))
    try simp only [Act.put, List.setIfInBounds_toArray, List.set_cons_zero, List.set_cons_succ]
    refine anyS_takeW (i := 2) (v := ?_) (by (simp only [List.getElem?_toArray, List.getElem?_cons_zero, List.getElem?_cons_succ]); exact rfl) (by kernel_rfl) (by kernel_rfl) (by kernel_rfl) (by decide) (by intro _ _ _ h; exact h) ⟨Or.inl ⟨by rfl, ?_⟩, fun _ => rfl⟩ (by assumption) ?_
    rotate_left
    · (intro w; go_simp; (try with_reducible rfl))
    try simp only [Act.put, List.setIfInBounds_toArray, List.set_cons_zero, List.set_cons_succ]
    refine anyS_takeW (i := 3) (v := ?_) (by (simp only [List.getElem?_toArray, List.getElem?_cons_zero, List.getElem?_cons_succ]); exact rfl) (by kernel_rfl) (by kernel_rfl) (by kernel_rfl) (by decide) (by intro _ _ _ h; exact h) ⟨Or.inl ⟨by rfl, ?_⟩, fun _ => rfl⟩ (by assumption) ?_
    rotate_left
    · (intro w; go_simp; (try with_reducible rfl))
    try simp only [Act.put, List.setIfInBounds_toArray, List.set_cons_zero, List.set_cons_succ]
    refine anyS_takeW (i := 4) (v := ?_) (by (simp only [List.getElem?_toArray, List.getElem?_cons_zero, List.getElem?_cons_succ]); exact rfl) (by kernel_rfl) (by kernel_rfl) (by kernel_rfl) (by decide) (by intro _ _ _ h; exact h) ⟨Or.inl ⟨by rfl, ?_⟩, fun _ => rfl⟩ (by assumption) ?_
    rotate_left
    · (intro w; go_simp; (try with_reducible rfl))
    try simp only [Act.put, List.setIfInBounds_toArray, List.set_cons_zero, List.set_cons_succ]
    refine anyS_take (i := 5) (v := ?_) (by (simp only [List.getElem?_toArray, List.getElem?_cons_zero, List.getElem?_cons_succ]); exact rfl) (by kernel_rfl) (by kernel_rfl) (by kernel_rfl) (by kernel_rfl) (by decide) (by intro _ _ _ h; exact h) (Or.inl ⟨by rfl, ?_⟩) (by assumption) ?_
    rotate_left
    · (intro w hSw; (try dsimp only at hSw); go_simp; (try with_reducible rfl))
    try simp only [Act.put, List.setIfInBounds_toArray, List.set_cons_zero, List.set_cons_succ]
    refine anyS_takeW (i := 8) (v := ?_) (by (simp only [List.getElem?_toArray, List.getElem?_cons_zero, List.getElem?_cons_succ]); exact rfl) (by kernel_rfl) (by kernel_rfl) (by kernel_rfl) (by decide) (by intro _ _ _ h; exact h) ⟨Or.inl ⟨by rfl, ?_⟩, fun _ => rfl⟩ (by assumption) ?_
    rotate_left
    · (intro w; go_simp; (try with_reducible rfl))
    try simp only [Act.put, List.setIfInBounds_toArray, List.set_cons_zero, List.set_cons_succ]
    refine anyS_takeW (i := 9) (v := ?_) (by (simp only [List.getElem?_toArray, List.getElem?_cons_zero, List.getElem?_cons_succ]); exact rfl) (by kernel_rfl) (by kernel_rfl) (by kernel_rfl) (by decide) (by intro _ _ _ h; exact h) ⟨Or.inl ⟨by rfl, ?_⟩, fun _ => rfl⟩ (by assumption) ?_
    rotate_left
    · (intro w; go_simp; (try with_reducible rfl))
    try simp only [Act.put, List.setIfInBounds_toArray, List.set_cons_zero, List.set_cons_succ]
    refine anyS_takeW (i := 10) (v := ?_) (by (simp only [List.getElem?_toArray, List.getElem?_cons_zero, List.getElem?_cons_succ]); exact rfl) (by kernel_rfl) (by kernel_rfl) (by kernel_rfl) (by decide) (by intro _ _ _ h; exact h) ⟨Or.inl ⟨by rfl, ?_⟩, fun _ => rfl⟩ (by assumption) ?_
    rotate_left
    · (intro w; go_simp; (try with_reducible rfl))
    try simp only [Act.put, List.setIfInBounds_toArray, List.set_cons_zero, List.set_cons_succ]
    refine anyS_take (i := 11) (v := ?_) (by (simp only [List.getElem?_toArray, List.getElem?_cons_zero, List.getElem?_cons_succ]); exact rfl) (by kernel_rfl) (by kernel_rfl) (by kernel_rfl) (by kernel_rfl) (by decide) (by intro _ _ _ h; exact h) (Or.inl ⟨by rfl, ?_⟩) (by assumption) ?_
    rotate_left
    · (intro w hSw; (try dsimp only at hSw); go_simp; (try with_reducible rfl))
    try simp only [Act.put, List.setIfInBounds_toArray, List.set_cons_zero, List.set_cons_succ]
    refine anyS_two (i := 1) (j := 7) (by kernel_rfl) (by decide) (by decide) (by (simp only [List.getElem?_toArray, List.getElem?_cons_zero, List.getElem?_cons_succ]); exact rfl) (by (simp only [List.getElem?_toArray, List.getElem?_cons_zero, List.getElem?_cons_succ]); exact rfl) (by rfl) (by rfl) (fun K hK => ?_) (fun K hK => ?_)
    · (try dsimp only at hHeld)
      go_simp
      refine hK.out _ _ ?_ (fun hHeld => ?_)
      · exact HS2.out _ (by (repeat (first | (with_reducible assumption) | (with_reducible exact Below.refl _ _) | ((with_reducible refine Below.setCell ?_ ?_ _); rotate_left; · (first | omega | (simp; done) | (simp; omega) | (simp at *; omega))) | ((with_reducible refine Below.alloc ?_ ?_ _); rotate_left; · (first | omega | (simp; done) | (simp; omega) | (simp at *; omega))) | (with_reducible refine Below.drew ?_) | (with_reducible refine below_drewN ?_ _) | ((refine Below.trans ?_ (Below.mono (by with_reducible assumption) ?_)); rotate_left; · (first | omega | (simp; done) | (simp; omega) | (simp at *; omega))))))
      clear hK K
      try simp only [Act.put, List.setIfInBounds_toArray, List.set_cons_zero, List.set_cons_succ]
      refine anyS_two (i := 6) (j := 7) (by kernel_rfl) (by decide) (by decide) (by (simp only [List.getElem?_toArray, List.getElem?_cons_zero, List.getElem?_cons_succ]); exact rfl) (by (simp only [List.getElem?_toArray, List.getElem?_cons_zero, List.getElem?_cons_succ]); exact rfl) (by rfl) (by rfl) (fun K hK => ?_) (fun K hK => ?_)
      · (try dsimp only at hHeld)
        go_simp
        refine hK.out _ _ ?_ (fun hHeld => ?_)
        · exact HS2.out _ (by (repeat (first | (with_reducible assumption) | (with_reducible exact Below.refl _ _) | ((with_reducible refine Below.setCell ?_ ?_ _); rotate_left; · (first | omega | (simp; done) | (simp; omega) | (simp at *; omega))) | ((with_reducible refine Below.alloc ?_ ?_ _); rotate_left; · (first | omega | (simp; done) | (simp; omega) | (simp at *; omega))) | (with_reducible refine Below.drew ?_) | (with_reducible refine below_drewN ?_ _) | ((refine Below.trans ?_ (Below.mono (by with_reducible assumption) ?_)); rotate_left; · (first | omega | (simp; done) | (simp; omega) | (simp at *; omega))))))
        clear hK K
        try simp only [Act.put, List.setIfInBounds_toArray, List.set_cons_zero, List.set_cons_succ]
        refine anyS_only (i := 7) (by kernel_rfl) (by decide) (by (simp only [List.getElem?_toArray, List.getElem?_cons_zero, List.getElem?_cons_succ]); exact rfl) (by rfl) (fun K hK => ?_)
        (try dsimp only at hHeld)
        go_simp
        refine hK.out _ _ ?_ (fun hHeld => ?_)
        · exact HS2.out _ (by (repeat (first | (with_reducible assumption) | (with_reducible exact Below.refl _ _) | ((with_reducible refine Below.setCell ?_ ?_ _); rotate_left; · (first | omega | (simp; done) | (simp; omega) | (simp at *; omega))) | ((with_reducible refine Below.alloc ?_ ?_ _); rotate_left; · (first | omega | (simp; done) | (simp; omega) | (simp at *; omega))) | (with_reducible refine Below.drew ?_) | (with_reducible refine below_drewN ?_ _) | ((refine Below.trans ?_ (Below.mono (by with_reducible assumption) ?_)); rotate_left; · (first | omega | (simp; done) | (simp; omega) | (simp at *; omega))))))
        clear hK K
        try simp only [Act.put, List.setIfInBounds_toArray, List.set_cons_zero, List.set_cons_succ]
        refine anyS_only (i := 12) (by kernel_rfl) (by decide) (by (simp only [List.getElem?_toArray, List.getElem?_cons_zero, List.getElem?_cons_succ]); exact rfl) (by rfl) (fun K hK => ?_)
        (try dsimp only at hHeld)
        go_simp
        refine hK.out _ _ ?_ (fun hHeld => ?_)
        · exact HS2.out _ (by (repeat (first | (with_reducible assumption) | (with_reducible exact Below.refl _ _) | ((with_reducible refine Below.setCell ?_ ?_ _); rotate_left; · (first | omega | (simp; done) | (simp; omega) | (simp at *; omega))) | ((with_reducible refine Below.alloc ?_ ?_ _); rotate_left; · (first | omega | (simp; done) | (simp; omega) | (simp at *; omega))) | (with_reducible refine Below.drew ?_) | (with_reducible refine below_drewN ?_ _) | ((refine Below.trans ?_ (Below.mono (by with_reducible assumption) ?_)); rotate_left; · (first | omega | (simp; done) | (simp; omega) | (simp at *; omega))))))
        clear hK K
        try simp only [Act.put, List.setIfInBounds_toArray, List.set_cons_zero, List.set_cons_succ]
        refine anyS_take (i := 13) (v := ?_) (by (simp only [List.getElem?_toArray, List.getElem?_cons_zero, List.getElem?_cons_succ]); exact rfl) (by kernel_rfl) (by kernel_rfl) (by kernel_rfl) (by kernel_rfl) (by decide) (by intro _ _ _ h; exact h) (Or.inl ⟨by rfl, ?_⟩) (by assumption) ?_
        rotate_left
        · (intro w hSw; (try dsimp only at hSw); go_simp; (try with_reducible rfl))
        try simp only [Act.put, List.setIfInBounds_toArray, List.set_cons_zero, List.set_cons_succ]
        refine anyS_only (i := 14) (by kernel_rfl) (by decide) (by (simp only [List.getElem?_toArray, List.getElem?_cons_zero, List.getElem?_cons_succ]); exact rfl) (by rfl) (fun K hK => ?_)
        (try dsimp only at hHeld)
        go_simp
        refine hK.out _ _ ?_ (fun hHeld => ?_)
        · exact HS2.out _ (by (repeat (first | (with_reducible assumption) | (with_reducible exact Below.refl _ _) | ((with_reducible refine Below.setCell ?_ ?_ _); rotate_left; · (first | omega | (simp; done) | (simp; omega) | (simp at *; omega))) | ((with_reducible refine Below.alloc ?_ ?_ _); rotate_left; · (first | omega | (simp; done) | (simp; omega) | (simp at *; omega))) | (with_reducible refine Below.drew ?_) | (with_reducible refine below_drewN ?_ _) | ((refine Below.trans ?_ (Below.mono (by with_reducible assumption) ?_)); rotate_left; · (first | omega | (simp; done) | (simp; omega) | (simp at *; omega))))))
        clear hK K
        try simp only [Act.put, List.setIfInBounds_toArray, List.set_cons_zero, List.set_cons_succ]
        refine anyS_exit (e := 15) (by kernel_rfl) (by (simp only [List.getElem?_toArray, List.getElem?_cons_zero, List.getElem?_cons_succ]); exact rfl) (by rfl) (fun K hK => ?_)
        refine wpIn_app_node (.tmp 11) (.tmp 25) rfl rfl rfl rfl (by repeat (first | (with_reducible refine Blk.at_end _ _ _ ?_; simp only [World.size_alloc]; done) | with_reducible apply Blk.alloc | with_reducible apply Blk.drew)) (trip_new (by repeat (first | (with_reducible refine Blk.at_end _ _ _ ?_; simp only [World.size_alloc]; done) | with_reducible apply Blk.alloc | with_reducible apply Blk.drew)) (by repeat (first | (with_reducible refine Blk.at_end _ _ _ ?_; simp only [World.size_alloc]; done) | with_reducible apply Blk.alloc | with_reducible apply Blk.drew)) rfl rfl rfl rfl (by omega) (by omega) (by omega) (by omega) (fun b hb => by have := hfr b hb; omega)) (HB.out.2.on hHeld.2.2.2.1) (by have := hHeld.2.2.2.1.size; omega) (by omega) ?_
        intro g c w2 hown hgrow hkeep hlow
        have HL := Lib.hid (LayIn.grown HIN.out hHeld.2.2.2.1 HB.out.1 hkeep hgrow HB.out.2 hown (hlow _ (HIN.out.low.trans (hHeld.2.2.2.1.mono HIN.out.low.size))) rfl)
        have hbx := boxAt hHeld.2.2.2.1 HB.out.1 hgrow HB.out.2
        have cz := hbx.cell 0
        have fz := hbx.frozen 0
        clear hown hgrow hkeep hlow hbx hHeld
        refine hK.out _ _ ?_
        clear hK K
        try simp only [Act.put, List.setIfInBounds_toArray, List.set_cons_zero, List.set_cons_succ]
        refine in_only (i := 16) (by kernel_rfl) (by (simp only [List.getElem?_toArray, List.getElem?_cons_zero, List.getElem?_cons_succ]); exact rfl) (by rfl) (fun K hK => ?_)
        go_simp
        refine hK.out _ _ ?_
        clear hK K
        try simp only [Act.put, List.setIfInBounds_toArray, List.set_cons_zero, List.set_cons_succ]
        refine wpAnyIn_done (by kernel_rfl) ?_ _
        go_wp2_with fail
        go_meet
        exact HL.out
      · (try dsimp only at hHeld)
        go_simp
        refine hK.out _ _ ?_ (fun hHeld => ?_)
        · exact HS2.out _ (by (repeat (first | (with_reducible assumption) | (with_reducible exact Below.refl _ _) | ((with_reducible refine Below.setCell ?_ ?_ _); rotate_left; · (first | omega | (simp; done) | (simp; omega) | (simp at *; omega))) | ((with_reducible refine Below.alloc ?_ ?_ _); rotate_left; · (first | omega | (simp; done) | (simp; omega) | (simp at *; omega))) | (with_reducible refine Below.drew ?_) | (with_reducible refine below_drewN ?_ _) | ((refine Below.trans ?_ (Below.mono (by with_reducible assumption) ?_)); rotate_left; · (first | omega | (simp; done) | (simp; omega) | (simp at *; omega))))))
        clear hK K
        try simp only [Act.put, List.setIfInBounds_toArray, List.set_cons_zero, List.set_cons_succ]
        refine anyS_only (i := 6) (by kernel_rfl) (by decide) (by (simp only [List.getElem?_toArray, List.getElem?_cons_zero, List.getElem?_cons_succ]); exact rfl) (by rfl) (fun K hK => ?_)
        (try dsimp only at hHeld)
        go_simp
        refine hK.out _ _ ?_ (fun hHeld => ?_)
        · exact HS2.out _ (by (repeat (first | (with_reducible assumption) | (with_reducible exact Below.refl _ _) | ((with_reducible refine Below.setCell ?_ ?_ _); rotate_left; · (first | omega | (simp; done) | (simp; omega) | (simp at *; omega))) | ((with_reducible refine Below.alloc ?_ ?_ _); rotate_left; · (first | omega | (simp; done) | (simp; omega) | (simp at *; omega))) | (with_reducible refine Below.drew ?_) | (with_reducible refine below_drewN ?_ _) | ((refine Below.trans ?_ (Below.mono (by with_reducible assumption) ?_)); rotate_left; · (first | omega | (simp; done) | (simp; omega) | (simp at *; omega))))))
        clear hK K
        try simp only [Act.put, List.setIfInBounds_toArray, List.set_cons_zero, List.set_cons_succ]
        refine anyS_only (i := 12) (by kernel_rfl) (by decide) (by (simp only [List.getElem?_toArray, List.getElem?_cons_zero, List.getElem?_cons_succ]); exact rfl) (by rfl) (fun K hK => ?_)
        (try dsimp only at hHeld)
        go_simp
        refine hK.out _ _ ?_ (fun hHeld => ?_)
        · exact HS2.out _ (by (repeat (first | (with_reducible assumption) | (with_reducible exact Below.refl _ _) | ((with_reducible refine Below.setCell ?_ ?_ _); rotate_left; · (first | omega | (simp; done) | (simp; omega) | (simp at *; omega))) | ((with_reducible refine Below.alloc ?_ ?_ _); rotate_left; · (first | omega | (simp; done) | (simp; omega) | (simp at *; omega))) | (with_reducible refine Below.drew ?_) | (with_reducible refine below_drewN ?_ _) | ((refine Below.trans ?_ (Below.mono (by with_reducible assumption) ?_)); rotate_left; · (first | omega | (simp; done) | (simp; omega) | (simp at *; omega))))))
        clear hK K
        try simp only [Act.put, List.setIfInBounds_toArray, List.set_cons_zero, List.set_cons_succ]
        refine anyS_take (i := 13) (v := ?_) (by (simp only [List.getElem?_toArray, List.getElem?_cons_zero, List.getElem?_cons_succ]); exact rfl) (by kernel_rfl) (by kernel_rfl) (by kernel_rfl) (by kernel_rfl) (by decide) (by intro _ _ _ h; exact h) (Or.inl ⟨by rfl, ?_⟩) (by assumption) ?_
        rotate_left
        · (intro w hSw; (try dsimp only at hSw); go_simp; (try with_reducible rfl))
        try simp only [Act.put, List.setIfInBounds_toArray, List.set_cons_zero, List.set_cons_succ]
        refine anyS_only (i := 14) (by kernel_rfl) (by decide) (by (simp only [List.getElem?_toArray, List.getElem?_cons_zero, List.getElem?_cons_succ]); exact rfl) (by rfl) (fun K hK => ?_)
        (try dsimp only at hHeld)
        go_simp
        refine hK.out _ _ ?_ (fun hHeld => ?_)
        · exact HS2.out _ (by (repeat (first | (with_reducible assumption) | (with_reducible exact Below.refl _ _) | ((with_reducible refine Below.setCell ?_ ?_ _); rotate_left; · (first | omega | (simp; done) | (simp; omega) | (simp at *; omega))) | ((with_reducible refine Below.alloc ?_ ?_ _); rotate_left; · (first | omega | (simp; done) | (simp; omega) | (simp at *; omega))) | (with_reducible refine Below.drew ?_) | (with_reducible refine below_drewN ?_ _) | ((refine Below.trans ?_ (Below.mono (by with_reducible assumption) ?_)); rotate_left; · (first | omega | (simp; done) | (simp; omega) | (simp at *; omega))))))
        clear hK K
        try simp only [Act.put, List.setIfInBounds_toArray, List.set_cons_zero, List.set_cons_succ]
        refine anyS_exit (e := 15) (by kernel_rfl) (by (simp only [List.getElem?_toArray, List.getElem?_cons_zero, List.getElem?_cons_succ]); exact rfl) (by rfl) (fun K hK => ?_)
        refine wpIn_app_node (.tmp 11) (.tmp 25) rfl rfl rfl rfl (by repeat (first | (with_reducible refine Blk.at_end _ _ _ ?_; simp only [World.size_alloc]; done) | with_reducible apply Blk.alloc | with_reducible apply Blk.drew)) (trip_new (by repeat (first | (with_reducible refine Blk.at_end _ _ _ ?_; simp only [World.size_alloc]; done) | with_reducible apply Blk.alloc | with_reducible apply Blk.drew)) (by repeat (first | (with_reducible refine Blk.at_end _ _ _ ?_; simp only [World.size_alloc]; done) | with_reducible apply Blk.alloc | with_reducible apply Blk.drew)) rfl rfl rfl rfl (by omega) (by omega) (by omega) (by omega) (fun b hb => by have := hfr b hb; omega)) (HB.out.2.on hHeld.2.2.2.1) (by have := hHeld.2.2.2.1.size; omega) (by omega) ?_
        intro g c w2 hown hgrow hkeep hlow
        have HL := Lib.hid (LayIn.grown HIN.out hHeld.2.2.2.1 HB.out.1 hkeep hgrow HB.out.2 hown (hlow _ (HIN.out.low.trans (hHeld.2.2.2.1.mono HIN.out.low.size))) rfl)
        have hbx := boxAt hHeld.2.2.2.1 HB.out.1 hgrow HB.out.2
        have cz := hbx.cell 0
        have fz := hbx.frozen 0
        clear hown hgrow hkeep hlow hbx hHeld
        refine hK.out _ _ ?_
        clear hK K
        try simp only [Act.put, List.setIfInBounds_toArray, List.set_cons_zero, List.set_cons_succ]
        refine in_only (i := 16) (by kernel_rfl) (by (simp only [List.getElem?_toArray, List.getElem?_cons_zero, List.getElem?_cons_succ]); exact rfl) (by rfl) (fun K hK => ?_)
        go_simp
        refine hK.out _ _ ?_
        clear hK K
        try simp only [Act.put, List.setIfInBounds_toArray, List.set_cons_zero, List.set_cons_succ]
        refine wpAnyIn_done (by kernel_rfl) ?_ _
        go_wp2_with fail
        go_meet
        exact HL.out
    · (try dsimp only at hHeld)
      go_simp
      refine hK.out _ _ ?_ (fun hHeld => ?_)
      · exact HS2.out _ (by (repeat (first | (with_reducible assumption) | (with_reducible exact Below.refl _ _) | ((with_reducible refine Below.setCell ?_ ?_ _); rotate_left; · (first | omega | (simp; done) | (simp; omega) | (simp at *; omega))) | ((with_reducible refine Below.alloc ?_ ?_ _); rotate_left; · (first | omega | (simp; done) | (simp; omega) | (simp at *; omega))) | (with_reducible refine Below.drew ?_) | (with_reducible refine below_drewN ?_ _) | ((refine Below.trans ?_ (Below.mono (by with_reducible assumption) ?_)); rotate_left; · (first | omega | (simp; done) | (simp; omega) | (simp at *; omega))))))
      clear hK K
      try simp only [Act.put, List.setIfInBounds_toArray, List.set_cons_zero, List.set_cons_succ]
      refine anyS_only (i := 1) (by kernel_rfl) (by decide) (by (simp only [List.getElem?_toArray, List.getElem?_cons_zero, List.getElem?_cons_succ]); exact rfl) (by rfl) (fun K hK => ?_)
      (try dsimp only at hHeld)
      go_simp
      refine hK.out _ _ ?_ (fun hHeld => ?_)
      · exact HS2.out _ (by (repeat (first | (with_reducible assumption) | (with_reducible exact Below.refl _ _) | ((with_reducible refine Below.setCell ?_ ?_ _); rotate_left; · (first | omega | (simp; done) | (simp; omega) | (simp at *; omega))) | ((with_reducible refine Below.alloc ?_ ?_ _); rotate_left; · (first | omega | (simp; done) | (simp; omega) | (simp at *; omega))) | (with_reducible refine Below.drew ?_) | (with_reducible refine below_drewN ?_ _) | ((refine Below.trans ?_ (Below.mono (by with_reducible assumption) ?_)); rotate_left; · (first | omega | (simp; done) | (simp; omega) | (simp at *; omega))))))
      clear hK K
      try simp only [Act.put, List.setIfInBounds_toArray, List.set_cons_zero, List.set_cons_succ]
      refine anyS_only (i := 6) (by kernel_rfl) (by decide) (by (simp only [List.getElem?_toArray, List.getElem?_cons_zero, List.getElem?_cons_succ]); exact rfl) (by rfl) (fun K hK => ?_)
      (try dsimp only at hHeld)
      go_simp
      refine hK.out _ _ ?_ (fun hHeld => ?_)
      · exact HS2.out _ (by (repeat (first | (with_reducible assumption) | (with_reducible exact Below.refl _ _) | ((with_reducible refine Below.setCell ?_ ?_ _); rotate_left; · (first | omega | (simp; done) | (simp; omega) | (simp at *; omega))) | ((with_reducible refine Below.alloc ?_ ?_ _); rotate_left; · (first | omega | (simp; done) | (simp; omega) | (simp at *; omega))) | (with_reducible refine Below.drew ?_) | (with_reducible refine below_drewN ?_ _) | ((refine Below.trans ?_ (Below.mono (by with_reducible assumption) ?_)); rotate_left; · (first | omega | (simp; done) | (simp; omega) | (simp at *; omega))))))
      clear hK K
      try simp only [Act.put, List.setIfInBounds_toArray, List.set_cons_zero, List.set_cons_succ]
      refine anyS_only (i := 12) (by kernel_rfl) (by decide) (by (simp only [List.getElem?_toArray, List.getElem?_cons_zero, List.getElem?_cons_succ]); exact rfl) (by rfl) (fun K hK => ?_)
      (try dsimp only at hHeld)
      go_simp
      refine hK.out _ _ ?_ (fun hHeld => ?_)
      · exact HS2.out _ (by (repeat (first | (with_reducible assumption) | (with_reducible exact Below.refl _ _) | ((with_reducible refine Below.setCell ?_ ?_ _); rotate_left; · (first | omega | (simp; done) | (simp; omega) | (simp at *; omega))) | ((with_reducible refine Below.alloc ?_ ?_ _); rotate_left; · (first | omega | (simp; done) | (simp; omega) | (simp at *; omega))) | (with_reducible refine Below.drew ?_) | (with_reducible refine below_drewN ?_ _) | ((refine Below.trans ?_ (Below.mono (by with_reducible assumption) ?_)); rotate_left; · (first | omega | (simp; done) | (simp; omega) | (simp at *; omega))))))
      clear hK K
      try simp only [Act.put, List.setIfInBounds_toArray, List.set_cons_zero, List.set_cons_succ]
      refine anyS_take (i := 13) (v := ?_) (by (simp only [List.getElem?_toArray, List.getElem?_cons_zero, List.getElem?_cons_succ]); exact rfl) (by kernel_rfl) (by kernel_rfl) (by kernel_rfl) (by kernel_rfl) (by decide) (by intro _ _ _ h; exact h) (Or.inl ⟨by rfl, ?_⟩) (by assumption) ?_
      rotate_left
      · (intro w hSw; (try dsimp only at hSw); go_simp; (try with_reducible rfl))
      try simp only [Act.put, List.setIfInBounds_toArray, List.set_cons_zero, List.set_cons_succ]
      refine anyS_only (i := 14) (by kernel_rfl) (by decide) (by (simp only [List.getElem?_toArray, List.getElem?_cons_zero, List.getElem?_cons_succ]); exact rfl) (by rfl) (fun K hK => ?_)
      (try dsimp only at hHeld)
      go_simp
      refine hK.out _ _ ?_ (fun hHeld => ?_)
      · exact HS2.out _ (by (repeat (first | (with_reducible assumption) | (with_reducible exact Below.refl _ _) | ((with_reducible refine Below.setCell ?_ ?_ _); rotate_left; · (first | omega | (simp; done) | (simp; omega) | (simp at *; omega))) | ((with_reducible refine Below.alloc ?_ ?_ _); rotate_left; · (first | omega | (simp; done) | (simp; omega) | (simp at *; omega))) | (with_reducible refine Below.drew ?_) | (with_reducible refine below_drewN ?_ _) | ((refine Below.trans ?_ (Below.mono (by with_reducible assumption) ?_)); rotate_left; · (first | omega | (simp; done) | (simp; omega) | (simp at *; omega))))))
      clear hK K
      try simp only [Act.put, List.setIfInBounds_toArray, List.set_cons_zero, List.set_cons_succ]
      refine anyS_exit (e := 15) (by kernel_rfl) (by (simp only [List.getElem?_toArray, List.getElem?_cons_zero, List.getElem?_cons_succ]); exact rfl) (by rfl) (fun K hK => ?_)
      refine wpIn_app_node (.tmp 11) (.tmp 25) rfl rfl rfl rfl (by repeat (first | (with_reducible refine Blk.at_end _ _ _ ?_; simp only [World.size_alloc]; done) | with_reducible apply Blk.alloc | with_reducible apply Blk.drew)) (trip_new (by repeat (first | (with_reducible refine Blk.at_end _ _ _ ?_; simp only [World.size_alloc]; done) | with_reducible apply Blk.alloc | with_reducible apply Blk.drew)) (by repeat (first | (with_reducible refine Blk.at_end _ _ _ ?_; simp only [World.size_alloc]; done) | with_reducible apply Blk.alloc | with_reducible apply Blk.drew)) rfl rfl rfl rfl (by omega) (by omega) (by omega) (by omega) (fun b hb => by have := hfr b hb; omega)) (HB.out.2.on hHeld.2.2.2.1) (by have := hHeld.2.2.2.1.size; omega) (by omega) ?_
      intro g c w2 hown hgrow hkeep hlow
      have HL := Lib.hid (LayIn.grown HIN.out hHeld.2.2.2.1 HB.out.1 hkeep hgrow HB.out.2 hown (hlow _ (HIN.out.low.trans (hHeld.2.2.2.1.mono HIN.out.low.size))) rfl)
      have hbx := boxAt hHeld.2.2.2.1 HB.out.1 hgrow HB.out.2
      have cz := hbx.cell 0
      have fz := hbx.frozen 0
      clear hown hgrow hkeep hlow hbx hHeld
      refine hK.out _ _ ?_
      clear hK K
      try simp only [Act.put, List.setIfInBounds_toArray, List.set_cons_zero, List.set_cons_succ]
      refine in_only (i := 16) (by kernel_rfl) (by (simp only [List.getElem?_toArray, List.getElem?_cons_zero, List.getElem?_cons_succ]); exact rfl) (by rfl) (fun K hK => ?_)
      go_simp
      refine hK.out _ _ ?_
      clear hK K
      try simp only [Act.put, List.setIfInBounds_toArray, List.set_cons_zero, List.set_cons_succ]
      refine wpAnyIn_done (by kernel_rfl) ?_ _
      go_wp2_with fail
      go_meet
      exact HL.out
  clear c0 HS2
  obtain ⟨hL, hkp⟩ := hcut
  obtain ⟨wz, rfl⟩ : ∃ wq : World, wq = wc := ⟨_, rfl⟩
  obtain ⟨C, hC, hC1, _⟩ := sl_form P.gc P.kids.length P.cc (hL.page HP.out.1).kids.1
  have k2 : wz.cell? ⟨p, 2, none⟩ = some (.slice C P.kids.length P.cc) := by rw [(hL.page HP.out.1).blk.cell 2]; exact congrArg some hC
  have HC := Lib.hid (And.intro hC hC1)
  have HL := Lib.hid (And.intro hL hkp)
  clear hL hkp hC hC1
  obtain ⟨nd, hnd⟩ : ∃ nd : NdR, nd = ⟨P.ks, P.vs, []⟩ := ⟨_, rfl⟩
  rw [← hnd] at HL
  have HND := Lib.hid hnd
  clear hnd
  go_upto_region 5 with fail
  clear k2
  go_loopg [6, 32] P.kids.length (fun g' s6 s32 wr => ∃ (x : Nat) (kv : Value), x ≤ P.kids.length ∧ g' = P.kids.length - x ∧ s32 = .int .i64 x ∧ kv = s6 ∧ OwnI W.heap.size wr kv (idxTo g (l.length + 1) P.kids x) ∧ LayIn w0 M lb ob (kv.ownBlock.toList ++ F) (l ++ [nd] ++ nodesTo g (l.length + 1) P.kids x) wr ∧ KeepN W wr)
  case atStart => exact ⟨0, _, Nat.zero_le _, rfl, rfl, rfl, OwnG.nil_ _ _ _ _, by simpa [nodesTo, Value.ownBlock] using HL.out.1, HL.out.2⟩
  case round =>
    obtain ⟨x, kv, hx, rfl, rfl, rfl, hI, hL, hk⟩ := hrel
    have hkl : P.kids.length ≤ 1000 := HP.out.2.2.2.2
    by_cases hlt : x < P.kids.length
    · have hki : (x : Int) < (P.kids.length : Int) := by omega
      have hk0 : (0 : Int) ≤ (x : Int) := by omega
      obtain ⟨m, hm⟩ : ∃ m, m = (l ++ [nd] ++ nodesTo g (l.length + 1) P.kids x).length := ⟨_, rfl⟩
      have hm2 : m = l.length + 1 + (nodesTo g (l.length + 1) P.kids x).length := by rw [hm]; simp; omega
      obtain ⟨r, hr⟩ := nodesTo_part g (l.length + 1) P.kids (show x + 1 ≤ P.kids.length by omega)
      have hs : nodesTo g (l.length + 1) P.kids (x + 1) = nodesTo g (l.length + 1) P.kids x ++ g (P.kids.getD x 0) m := by rw [hm2]; rfl
      have hrm : m + (g (P.kids.getD x 0) m).length ≤ 1000000 := by
        have h1 := HRM.out
        rw [hr, hs, List.length_append, List.length_append] at h1
        omega
      have hc := HKID.out x hlt _ _ wr hL (by rw [← hm]; exact hrm)
      rw [← hm] at hc
      have hpg := hL.page HP.out.1
      have cg := hpg.kid hlt
      have co := hL.fn.cell 0
      obtain ⟨kp, hkp⟩ : ∃ kp, kp = P.kids.getD x 0 := ⟨_, rfl⟩
      rw [← hkp] at cg hc hs
      have hCs : C = some ⟨P.gc, 0, none⟩ := HC.out.2 (hpg.kids.pos (by omega))
      subst hCs
      have HCALL := Lib.hid (show Calls Try.prog 37 #[.pointer (some ⟨kp, 0, none⟩), .pointer (some ⟨lb, 0, none⟩), .pointer (some ⟨ob, 0, none⟩)] wr (fun e w2 => e = .returned (.int .i64 (m : Int)) ∧ LayIn w0 M lb ob (kv.ownBlock.toList ++ F) (l ++ [nd] ++ nodesTo g (l.length + 1) P.kids (x + 1)) w2 ∧ KeepN wr w2) from hc.mono (fun e w2 h => ⟨by rw [h.1, ← hm], by rw [hs, ← List.append_assoc]; exact h.2.1, h.2.2⟩))
      have HX := Lib.hid (And.intro hm (And.intro hm2 (And.intro hI (And.intro hk hL.low.size))))
      clear hm hm2 hr hs hrm hc hpg hkp hI hL hk r
      go_wp2_with (go_at_call 37; (with_reducible refine Calls.mono HCALL.out ?_); rintro e w2 ⟨rfl, hL2, hk2⟩)
      have hI2 := HX.out.2.2.1.keepN hk2 (by decide) (by decide)
      obtain ⟨g', c', w3, hrun, hI3, hgr, hat⟩ := OwnI.app hI2 (Nat.le_trans HX.out.2.2.2.1.size hk2.size) (by rw [idxTo_len]; have := HP.out.2.2.2.2; omega) (m : Int)
      obtain ⟨hL3, hk3⟩ := hL2.appended hI2 HIN.out.low.size hgr hat hI3
      have HY := Lib.hid (And.intro hI3 (And.intro hL3 (hk3 W (HX.out.2.2.2.1.trans hk2) (Nat.le_refl _))))
      clear hI2 hI3 hgr hat hL3 hk3 hL2 hk2
      rw [appI_eq] at hrun
      go_wp2_with fail
      rw [hrun]
      go_wp2_with fail
      go_roundg (P.kids.length - (x + 1))
      case measure => omega
      case rel => exact ⟨x + 1, _, by omega, rfl, by go_num, rfl, by rw [idxTo_succ, ← HX.out.2.1]; exact HY.out.1, HY.out.2.1, HY.out.2.2⟩
    · obtain rfl : x = P.kids.length := by omega
      have hki : ¬ (P.kids.length : Int) < (P.kids.length : Int) := by omega
      obtain ⟨K1, K2, rfl⟩ := OwnI.form hI
      obtain ⟨v2, hb2, hv2⟩ := hL.box
      obtain ⟨A2, c2, rfl⟩ := hv2.form
      have hlL : l.length < (l ++ [nd] ++ nodesTo g (l.length + 1) P.kids P.kids.length).length := by simp
      obtain ⟨g2, rfl, ⟨z2, hz2⟩, hfz, hL3, hk3⟩ := hL.stored hb2 hv2 (hI.mono HIN.out.low.size) hlL (fun b hb e => by
        have h1 := HIN.out.fr b hb
        have h2 := (hI.1.lt b e).1
        omega)
      have he : (l ++ [nd] ++ nodesTo g (l.length + 1) P.kids P.kids.length).set l.length ⟨((l ++ [nd] ++ nodesTo g (l.length + 1) P.kids P.kids.length).getD l.length n0).ks, ((l ++ [nd] ++ nodesTo g (l.length + 1) P.kids P.kids.length).getD l.length n0).vs, idxTo g (l.length + 1) P.kids P.kids.length⟩ = l ++ (⟨P.ks, P.vs, idxTo g (l.length + 1) P.kids P.kids.length⟩ :: nodesTo g (l.length + 1) P.kids P.kids.length) := by
        have e1 : (l ++ [nd] ++ nodesTo g (l.length + 1) P.kids P.kids.length).getD l.length n0 = nd := by simp
        rw [e1, HND.out]
        simp
      rw [he] at hL3
      have HZ := Lib.hid (And.intro hL3 (hk.trans hk3))
      have cb := hb2.cell 0
      obtain ⟨m, hm⟩ : ∃ m, m = (l ++ [nd] ++ nodesTo g (l.length + 1) P.kids P.kids.length).length := ⟨_, rfl⟩
      have cb2 : wr.cell? ⟨lb, 0, none⟩ = some (.slice (some ⟨g2, 0, none⟩) m c2) := by rw [hm]; exact cb
      have hlm : (l.length : Int) < (m : Int) := by omega
      have hl0 : (0 : Int) ≤ (l.length : Int) := by omega
      clear hm cb hlL he hL3 hk3 hb2 hv2 hL hI hk
      go_wp2_with fail
      go_ret
      exact ⟨rfl, HZ.out.1, HZ.out.2⟩
end Go.Proofs.Ytmmikolcipcldaa
