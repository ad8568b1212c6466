/-
  What is proved here: a tree's pages by number (Nodes). Conditions: each theorem's own.
-/
import Derived.Test.YtmmikolcipcldaaTreeNodes
import Derived.Test.YtmmikolcipcldaaTreeKn
import Derived.Test.YtmmikolcipcldaaFHeld
import Derived.TacticsInMore
namespace Go.Proofs.Ytmmikolcipcldaa
open Go.RowKit Go.Deep

theorem lay_any {d : Nat} {M : Nat → Option Pg} (hd2 : 2 ≤ d) (hd : d ≤ 16) {lb ob : Nat} {w0 : World} : ∀ (h : Nat) {lo p : Nat} {es : List En} {fs : List Nat}, Tr d M h lo p es fs → 1 ≤ lo → ∀ (F : List Nat) (l : List NdR) (W : World), LayIn w0 M lb ob F l W → l.length + (lay M h p l.length).length ≤ 1000000 →
    Calls Try.prog 37 #[.pointer (some ⟨p, 0, none⟩), .pointer (some ⟨lb, 0, none⟩), .pointer (some ⟨ob, 0, none⟩)] W (LayOut w0 M lb ob F l (lay M h p l.length) W)
  | 0, lo, p, es, fs, t, hlo, F, l, W, hin, hroom => by
    obtain ⟨P, hP, hv, h1, h2, hk, _, _⟩ := t
    have hlay : lay M 0 p l.length = [⟨P.ks, P.vs, []⟩] := by show [_] = _; rw [pgOf_some hP]
    rw [hlay] at hroom ⊢
    have := lay_node (fun _ _ => []) hP hv (by omega) (by omega) (by rw [hk]; simp) hin (by rw [hk]; simpa [nodesTo] using hroom) (fun i hi => by rw [hk] at hi; exact absurd hi (by simp))
    rw [hk] at this
    exact this
  | h + 1, lo, p, es, fs, t, hlo, F, l, W, hin, hroom => by
    obtain ⟨P, c, fk, hP, hv, h1, h2, hk, ht, _, _⟩ := t
    have hlay : lay M (h + 1) p l.length = ⟨P.ks, P.vs, idxTo (lay M h) (l.length + 1) P.kids P.kids.length⟩ :: nodesTo (lay M h) (l.length + 1) P.kids P.kids.length := by show _ :: _ = _; rw [pgOf_some hP]
    rw [hlay] at hroom ⊢
    exact lay_node (lay M h) hP hv (by omega) (by omega) (by omega) hin (by rw [List.length_cons] at hroom; omega) (fun i hi F' l' W' hin' hr => lay_any hd2 hd h (ht i (by omega)) (by omega) F' l' W' hin' hr)

theorem LayIn.on {w0 W W' : World} {M : Nat → Option Pg} {lb ob : Nat} {F : List Nat} {l : List NdR} (h : LayIn w0 M lb ob F l W) (hb : Below W.heap.size W W') : LayIn w0 M lb ob F l W' := by
  obtain ⟨v, h1, h2⟩ := h.box
  exact ⟨h.old, ⟨v, h1.below hb h1.lt, h2.on hb⟩, h.fn.below hb h.fn.lt, h.low.trans (hb.mono h.low.size), h.lo2, fun b hb' => Nat.lt_of_lt_of_le (h.fr b hb') hb.size⟩
/-- pages by number that are a tree's. -/
def PagesOf (d : Nat) (l : List NdR) (es : List En) : Prop :=
  l.length ≤ es.length ∧ (∀ x ∈ l, x.ks.length ≤ 31 ∧ x.vs.length ≤ 31 ∧ x.kids.length ≤ 32) ∧
  ((l = [] ∧ es = []) ∨ (0 < l.length ∧ ∃ h, vis l d (l.length + 1) 0 1 (List.replicate l.length false) 0 = some ⟨List.replicate l.length true, 1 + h, es⟩ ∧ 2 * d ^ h ≤ es.length + 1))
theorem PagesOf.of {d h p : Nat} {M : Nat → Option Pg} {es : List En} {fs : List Nat} (hd2 : 2 ≤ d) (hd : d ≤ 16) (t : Tr d M h 1 p es fs) : PagesOf d (lay M h p 0) es :=
  ⟨lay_few hd2 (Nat.le_refl _) t, lay_fit hd t, .inr ⟨lay_pos _ _ _ _, h, vis_whole t, Tr.flat_ hd2 t⟩⟩
theorem PagesOf.ofE {d : Nat} {l : List NdR} {es : List En} (h : PagesOf d l es) (hp : 0 < l.length) (hu : Up es) : ofE d l = some es := by
  rcases h.2.2 with ⟨rfl, _⟩ | ⟨_, hh, h1, _⟩
  · exact absurd hp (by simp)
  · exact ofE_some h1 (all_true _) hu
theorem PagesOf.fit {d : Nat} {l : List NdR} {es : List En} (h : PagesOf d l es) (hl : es.length ≤ 1000000) : NdsFit l := ⟨Nat.le_trans h.1 hl, fun n hn => by have := h.2.1 n hn; omega⟩
def NodesOut (d : Nat) (es : List En) (W : World) (e : Ending) (W' : World) : Prop := ∃ A l c, e = .returned (.slice A l.length c) ∧ OwnNs W.heap.size [] W' (.slice A l.length c) l ∧ Below W.heap.size W W' ∧ PagesOf d l es

set_option maxRecDepth 100000 in
set_option maxHeartbeats 1000000 in
theorem nodes_any {d tr B : Nat} {M : Nat → Option Pg} {es : List En} {W : World} (hd2 : 2 ≤ d) (hd : d ≤ 16) (hT : Tree B W M tr d es) (hl : es.length ≤ 1000000) :
    Calls Try.prog 23 #[.pointer (some ⟨tr, 0, none⟩)] W (NodesOut d es W) := by
  obtain ⟨root, hat, htr⟩ := hT.at_
  have t1 : W.cell? ⟨tr, 1, none⟩ = some (.pointer (root.map (fun p => ⟨p, 0, none⟩))) := hat.cell 1
  have htl := hat.lt
  have hmf : ∀ (fn : Fn) (first cap : Array Value) (w : World), (Instr.makeFunc fn first cap).run Try.prog w = .ok (.func fn first cap) w := fun _ _ _ _ => rfl
  have HT := Lib.hid hT
  have HH := Lib.hid (And.intro hat htr)
  have HD := Lib.hid (And.intro hd2 (And.intro hd hl))
  clear hT hat htr hd2 hd hl
  go_enter Try.func23, Try.ntmps23
  cases root with
  | none =>
    have hno : es = [] := by
      rcases HH.out.2 with h | ⟨_, _, _, h, _⟩
      · exact h.2
      · cases h
    go_wp2_with fail
    go_ret
    subst hno
    exact ⟨none, [], 0, rfl, OwnNs.nil_ _ _ _, by (repeat (first | (with_reducible assumption) | (with_reducible exact Below.refl _ _) | ((with_reducible refine Below.setCell ?_ ?_ _); rotate_left; · (first | omega | (simp; done) | (simp; omega) | (simp at *; omega))) | ((with_reducible refine Below.alloc ?_ ?_ _); rotate_left; · (first | omega | (simp; done) | (simp; omega) | (simp at *; omega))) | (with_reducible refine Below.drew ?_) | (with_reducible refine below_drewN ?_ _) | ((refine Below.trans ?_ (Below.mono (by with_reducible assumption) ?_)); rotate_left; · (first | omega | (simp; done) | (simp; omega) | (simp at *; omega))))), Nat.le_refl _, fun x hx => absurd hx (by simp), .inl ⟨rfl, rfl⟩⟩
  | some p =>
    go_upto_region 5 with fail
    obtain ⟨W1, hW1⟩ : ∃ W1 : World, W1 = (W.alloc (.cells #[.slice none 0 0] 51)).alloc (.cells #[.func (.func 37) #[] #[.pointer (some ⟨W.heap.size, 0, none⟩), .pointer (some ⟨W.heap.size + 1, 0, none⟩)]] 83) := ⟨_, rfl⟩
    rw [← hW1]
    obtain ⟨hh, FS, t⟩ : ∃ hh FS, Tr d M hh 1 p es FS := by
      rcases HH.out.2 with ⟨h, _⟩ | ⟨p', hh, FS, h, t, _⟩
      · cases h
      · cases h
        exact ⟨hh, FS, t⟩
    have hb1 : Below W.heap.size W W1 := by rw [hW1]; (repeat (first | (with_reducible assumption) | (with_reducible exact Below.refl _ _) | ((with_reducible refine Below.setCell ?_ ?_ _); rotate_left; · (first | omega | (simp; done) | (simp; omega) | (simp at *; omega))) | ((with_reducible refine Below.alloc ?_ ?_ _); rotate_left; · (first | omega | (simp; done) | (simp; omega) | (simp at *; omega))) | (with_reducible refine Below.drew ?_) | (with_reducible refine below_drewN ?_ _) | ((refine Below.trans ?_ (Below.mono (by with_reducible assumption) ?_)); rotate_left; · (first | omega | (simp; done) | (simp; omega) | (simp at *; omega)))))
    have hin : LayIn W M W.heap.size (W.heap.size + 1) [] [] W1 := by
      refine ⟨fun hp => HT.out.th.page hp, ⟨.slice none 0 0, by rw [hW1]; exact (Blk.new _ _ _).alloc _, OwnNs.nil_ _ _ _⟩, ?_, hb1, Nat.le_refl _, fun b hb => absurd hb (by simp)⟩
      rw [hW1]
      exact Blk.at_end _ _ _ (by simp)
    have hbd : Below W1.heap.size W1 W1.drew := (Below.refl _ _).drew
    have hfew := lay_few HD.out.1 (n := 0) (Nat.le_refl _) t
    have hcall := lay_any HD.out.1 HD.out.2.1 hh t (Nat.le_refl _) [] [] W1.drew (hin.on hbd) (by simp only [List.length_nil, Nat.zero_add]; exact Nat.le_trans hfew HD.out.2.2)
    have HCALL := Lib.hid hcall
    have HPG := Lib.hid (PagesOf.of HD.out.1 HD.out.2.1 t)
    have hS : ∀ X, Below W1.heap.size W1 X → (X.cell? ⟨W.heap.size + 1, 0, none⟩ = some (.func (.func 37) #[] #[.pointer (some ⟨W.heap.size, 0, none⟩), .pointer (some ⟨W.heap.size + 1, 0, none⟩)]) ∧ X.cell? ⟨tr, 1, none⟩ = some (.pointer (some ⟨p, 0, none⟩))) := fun X hb => by
      refine ⟨(hin.fn.below hb hin.fn.lt).cell 0, ?_⟩
      rw [(hb1.trans (hb.mono hb1.size)).cell (p := ⟨tr, 1, none⟩) htl]
      exact t1
    have HS := Lib.hid hS
    clear hS hcall hin hfew t t1 htl hW1 HT HH
    go_cut [] (fun wz => LayIn W M W.heap.size (W.heap.size + 1) [] (lay M hh p 0) wz)
    case first =>
      refine (wpIn_wide (n := 0)).1 ?_
      refine anyS_region (S := (fun X => X.cell? ⟨W.heap.size + 1, 0, none⟩ = some (.func (.func 37) #[] #[.pointer (some ⟨W.heap.size, 0, none⟩), .pointer (some ⟨W.heap.size + 1, 0, none⟩)]) ∧ X.cell? ⟨tr, 1, none⟩ = some (.pointer (some ⟨p, 0, none⟩)))) 5 (by kernel_rfl) ?_ (fun hHeld => ?_)
      · exact HS.out _ ((Below.refl _ _).drew)
      refine anyS_take (i := 0) (v := ?_) (by (simp only [List.getElem?_toArray, List.getElem?_cons_zero]); exact rfl) (by kernel_rfl) (by kernel_rfl) (by kernel_rfl) (by kernel_rfl) (by decide) (by intro _ _ _ h; exact h) (Or.inl ⟨by rfl, ?_⟩) (by assumption) ?_
      rotate_left
      · (intro w hSw; (try dsimp only at hSw); go_simp; (try with_reducible rfl))
      try simp only [Act.put, List.setIfInBounds_toArray, List.set_cons_zero, List.set_cons_succ]
      refine anyS_takeW (i := 1) (v := ?_) (by (simp only [List.getElem?_toArray, List.getElem?_cons_zero, List.getElem?_cons_succ]); exact rfl) (by kernel_rfl) (by kernel_rfl) (by kernel_rfl) (by decide) (by intro _ _ _ h; exact h) ⟨Or.inl ⟨by rfl, ?_⟩, fun _ => rfl⟩ (by assumption) ?_
      rotate_left
      · (intro w; go_simp; (try with_reducible rfl))
      try simp only [Act.put, List.setIfInBounds_toArray, List.set_cons_zero, List.set_cons_succ]
      refine anyS_takeW (i := 2) (v := ?_) (by (simp only [List.getElem?_toArray, List.getElem?_cons_zero, List.getElem?_cons_succ]); exact rfl) (by kernel_rfl) (by kernel_rfl) (by kernel_rfl) (by decide) (by intro _ _ _ h; exact h) ⟨Or.inl ⟨by rfl, ?_⟩, fun _ => rfl⟩ (by assumption) ?_
      rotate_left
      · (intro w; go_simp; (try with_reducible rfl))
      try simp only [Act.put, List.setIfInBounds_toArray, List.set_cons_zero, List.set_cons_succ]
      refine anyS_takeW (i := 3) (v := ?_) (by (simp only [List.getElem?_toArray, List.getElem?_cons_zero, List.getElem?_cons_succ]); exact rfl) (by kernel_rfl) (by kernel_rfl) (by kernel_rfl) (by decide) (by intro _ _ _ h; exact h) ⟨Or.inl ⟨by rfl, ?_⟩, fun _ => rfl⟩ (by assumption) ?_
      rotate_left
      · (intro w; go_simp; (try with_reducible rfl))
      try simp only [Act.put, List.setIfInBounds_toArray, List.set_cons_zero, List.set_cons_succ]
      refine anyS_take (i := 4) (v := ?_) (by (simp only [List.getElem?_toArray, List.getElem?_cons_zero, List.getElem?_cons_succ]); exact rfl) (by kernel_rfl) (by kernel_rfl) (by kernel_rfl) (by kernel_rfl) (by decide) (by intro _ _ _ h; exact h) (Or.inl ⟨by rfl, ?_⟩) (by assumption) ?_
      rotate_left
      · (intro w hSw; (try dsimp only at hSw); go_simp; (try with_reducible rfl))
      try simp only [Act.put, List.setIfInBounds_toArray, List.set_cons_zero, List.set_cons_succ]
      refine anyS_exit (e := 5) (by kernel_rfl) (by (simp only [List.getElem?_toArray, List.getElem?_cons_zero, List.getElem?_cons_succ]); exact rfl) (by rfl) (fun K hK => ?_)
      go_simp
      refine ⟨trivial, rfl, ?_⟩
      gi_at_call 37
      refine (callsIn_wide.2 HCALL.out).mono ?_
      rintro e wk ⟨rfl, hL, _⟩
      refine hK.out _ _ ?_
      clear hK K
      try simp only [Act.put, List.setIfInBounds_toArray, List.set_cons_zero, List.set_cons_succ]
      refine wpAnyIn_done (by kernel_rfl) ?_ _
      go_wp2_with fail
      go_meet
      exact hL
    obtain ⟨v, hb, hv⟩ := hcut.box
    obtain ⟨A, c, rfl⟩ := hv.form
    have cb := hb.cell 0
    have HL := Lib.hid (And.intro hcut.low hv)
    clear hcut hb hv hb1 hbd HS HCALL
    go_wp2_with fail
    go_ret
    exact ⟨A, _, c, rfl, HL.out.2, HL.out.1, HPG.out⟩
theorem Has.nodes {n tr d : Nat} {w W : World} {es : List En} (h : Has n w tr d es W) (hd2 : 2 ≤ d) (hd : d ≤ 16) (hl : es.length ≤ 1000000) : Calls Try.prog 23 #[.pointer (some ⟨tr, 0, none⟩)] W (NodesOut d es W) := by
  obtain ⟨M, hM⟩ := h.tree
  exact nodes_any hd2 hd hM hl
end Go.Proofs.Ytmmikolcipcldaa
