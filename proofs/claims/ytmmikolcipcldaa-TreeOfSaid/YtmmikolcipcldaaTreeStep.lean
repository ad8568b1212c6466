/-
  What is proved here: what a round of the tree's Put finds, and what it leaves: a step down, a parted kid, a found key, a key put into a leaf (chapter 15). Conditions: each theorem's own.
-/
import Derived.Test.YtmmikolcipcldaaTreeNode
namespace Go.Proofs.Ytmmikolcipcldaa
open Go.RowKit Go.Deep

theorem place_ins {ks : List Ky} {k x : Ky} : place (insAt ks (place ks k) x) k = if bel x k = true then place ks k + 1 else place ks k := by
  have hle := place_le ks k
  have hlen := insAt_len ks (place ks k) x
  by_cases hx : bel x k = true
  · rw [if_pos hx]
    refine place_eq (by omega) (fun j hj => ?_) (fun hj => ?_)
    · by_cases e : j = place ks k
      · rw [e, insAt_at hle]; exact hx
      · rw [insAt_lo (by omega) hle]; exact place_below (by omega)
    · rw [insAt_hi (Nat.le_refl _) hle]
      exact place_not (by omega)
  · rw [if_neg hx]
    refine place_eq (by omega) (fun j hj => ?_) (fun hj => ?_)
    · rw [insAt_lo hj hle]; exact place_below hj
    · rw [insAt_at hle]; simpa using hx
theorem hit_key {ks : List Ky} {k : Ky} (h : hit ks k = true) : place ks k < ks.length ∧ ks.getD (place ks k) k0 = k := by
  unfold hit at h
  exact of_decide_eq_true h
theorem hit_not {ks : List Ky} {k : Ky} (h : hit ks k = false) (hi : place ks k < ks.length) : bel k (ks.getD (place ks k) k0) = true := by
  unfold hit at h
  have := of_decide_eq_false h
  exact bel_total (place_not hi) (fun e => this ⟨hi, e⟩)

section
variable {d : Nat} {M M' : Nat → Option Pg} {h lo p : Nat} {es : List En} {fs : List Nat} {P : Pg} {c : Nat → List En} {f : Nat → List Nat}
theorem Node.above (t : Node d M h lo p es fs P c f) (hu : Up es) {k : Ky} (hh : hit P.ks k = false) : ∀ e ∈ seg c P (place P.ks k) P.ks.length, bel k e.1 = true := by
  intro e he
  by_cases hi : place P.ks k < P.ks.length
  · have hk := hit_not hh hi
    rw [t.partAt hi] at hu
    rw [seg_cons c P hi] at he
    rcases List.mem_cons.1 he with rfl | he
    · exact hk
    · have := (List.pairwise_cons.1 (hu.right.right)).1 e he
      exact bel_trans hk this
  · have : place P.ks k = P.ks.length := by have := place_le P.ks k; omega
    rw [this, seg_end] at he
    cases he
theorem Node.ahead (t : Node d M h lo p es fs P c f) (hu : Up es) {k : Ky} (hh : hit P.ks k = true) : ∀ e ∈ c (place P.ks k), bel e.1 k = true := by
  intro e he
  obtain ⟨hi, hk⟩ := hit_key hh
  rw [t.partAt hi] at hu
  have := hu.right.lt he (y := ent P (place P.ks k)) (by simp)
  rw [show (ent P (place P.ks k)).1 = k from hk] at this
  exact this
end

/-- what a turned tree under page p makes of the whole. -/
def Closes (d : Nat) (Mx : Nat → Option Pg) (root p h lo : Nat) (fs : List Nat) (pre post : List En) : Prop :=
  ∀ (M' : Nat → Option Pg) (es' : List En) (fs' : List Nat), (∀ x, Mx x ≠ none → x ∉ fs → M' x = Mx x) → Tr d M' h lo p es' fs' → fs'.Nodup → (∀ x ∈ fs', x ∈ fs ∨ Mx x = none) → ∃ H FS, Tr d M' H 1 root (pre ++ (es' ++ post)) FS ∧ FS.Nodup
theorem Closes.root {d : Nat} {Mx : Nat → Option Pg} {root h lo : Nat} {fs : List Nat} (hl : 1 ≤ lo) : Closes d Mx root root h lo fs [] [] := fun M' es' fs' _ ht hn _ => ⟨h, fs', by simpa using ht.lower hl, hn⟩

/-- what Put has at the head of a round: the page, what lies ahead and behind. -/
structure Step (B : Nat) (w : World) (M : Nat → Option Pg) (d root : Nat) (k : Ky) (es0 : List En) (p h : Nat) (Q : Pg) (Mx : Nat → Option Pg) (W : World) : Prop where
  th : TH B W Mx
  fr : Fr [] M w Mx W
  up : Up es0
  d2 : 2 ≤ d
  room : Q.ks.length ≤ 2 * d - 2 ∨ (h ≠ 0 ∧ ∃ L, Mx (Q.kids.getD (place Q.ks k) 0) = some L ∧ L.ks.length ≠ 2 * d - 1)
  tree : ∃ pre es post lo fs c f, Node d Mx h lo p es fs Q c f ∧ fs.Nodup ∧ (1 ≤ lo ∨ h = 0) ∧ es0 = pre ++ (es ++ post) ∧ (∀ e ∈ pre, bel e.1 k = true) ∧ (∀ e ∈ post, bel k e.1 = true) ∧ Closes d Mx root p h (max lo 1) fs pre post
/-- what Put has done. -/
structure Fin (B : Nat) (w : World) (M : Nat → Option Pg) (d root : Nat) (es : List En) (W : World) : Prop where
  st : ∃ M', TH B W M' ∧ Fr [] M w M' W ∧ ∃ H FS, Tr d M' H 1 root es FS ∧ FS.Nodup
section
variable {B : Nat} {w W W' : World} {M Mx : Nat → Option Pg} {d root p h : Nat} {k : Ky} {es0 : List En} {Q : Pg}
theorem Step.at_ (s : Step B w M d root k es0 p h Q Mx W) : Mx p = some Q := by obtain ⟨pre, es, post, lo, fs, c, f, t, _⟩ := s.tree; exact t.at_
theorem Step.page (s : Step B w M d root k es0 p h Q Mx W) : PageAt W p Q := s.th.page s.at_
theorem Step.on (s : Step B w M d root k es0 p h Q Mx W) (hb : Below W.heap.size W W') : Step B w M d root k es0 p h Q Mx W' := ⟨s.th.on hb, s.fr.trans (Fr.of_below hb), s.up, s.d2, s.room, s.tree⟩
theorem Step.vs (s : Step B w M d root k es0 p h Q Mx W) : Q.vs.length = Q.ks.length := by obtain ⟨pre, es, post, lo, fs, c, f, t, _⟩ := s.tree; exact t.vs
theorem Step.hi (s : Step B w M d root k es0 p h Q Mx W) : Q.ks.length ≤ 2 * d - 1 := by obtain ⟨pre, es, post, lo, fs, c, f, t, _⟩ := s.tree; exact t.hi
theorem Step.kids (s : Step B w M d root k es0 p h Q Mx W) : (h = 0 ∧ Q.kids.length = 0) ∨ ∃ h', h = h' + 1 ∧ Q.kids.length = Q.ks.length + 1 := by
  obtain ⟨pre, es, post, lo, fs, c, f, t, _⟩ := s.tree
  rcases t.kids with ⟨h1, h2, _⟩ | ⟨h', h1, h2, _⟩
  · exact .inl ⟨h1, by rw [h2]; rfl⟩
  · exact .inr ⟨h', h1, h2⟩
/-- the key stands there. -/
theorem Step.found {v : Int} {Q' : Pg} (s : Step B w M d root k es0 p h Q Mx W) (hB : B ≤ W.heap.size) (hh : hit Q.ks k = true) (hT : Touch W W' (p :: Q.blocks)) (hQ : PageAt W' p Q') (h1 : Q'.ks = Q.ks) (h2 : Q'.vs = Q.vs.set (place Q.ks k) v) (h3 : Q'.kids = Q.kids)
    (g1 : Held W Q.gk Q.ck Q'.gk Q'.ck) (g2 : Held W Q.gv Q.cv Q'.gv Q'.cv) (g3 : Held W Q.gc Q.cc Q'.gc Q'.cc) : Fin B w M d root (insE k v es0) W' ∧ hasE k es0 = true := by
  obtain ⟨pre, es, post, lo, fs, c, f, t, hn, hlo, he, hpre, hpost, hcl⟩ := s.tree
  obtain ⟨hi, hk⟩ := hit_key hh
  have hu : Up es := by have := s.up; rw [he] at this; exact this.right.left
  have t' : Node d Mx h (max lo 1) p es fs Q c f := ⟨t.at_, t.vs, by have := t.lo; omega, t.hi, t.es, t.fs, t.kids⟩
  obtain ⟨H, FS, hT', hN⟩ := hcl (upd Mx p Q') _ fs (fun x _ hx => upd_other _ _ (fun e => hx (by rw [e]; exact t.tr.root_mem))) (t'.found (v := v) hn hi h1 h2 h3) hn (fun x hx => .inl hx)
  have hb : ∀ e ∈ pre ++ (flat c Q (place Q.ks k) ++ c (place Q.ks k)), bel e.1 k = true := by
    intro e hm
    rcases List.mem_append.1 hm with hm | hm
    · exact hpre e hm
    · rcases List.mem_append.1 hm with hm | hm
      · exact flat_below hu t.es k _ (Nat.le_refl _) e hm
      · exact t.ahead hu hh e hm
  have hE : es0 = (pre ++ (flat c Q (place Q.ks k) ++ c (place Q.ks k))) ++ (k, Q.vs.getD (place Q.ks k) 0) :: ((c (place Q.ks k + 1) ++ seg c Q (place Q.ks k + 1) Q.ks.length) ++ post) := by
    rw [he, t.partAt hi, show ent Q (place Q.ks k) = (k, Q.vs.getD (place Q.ks k) 0) by unfold ent; rw [hk]]
    simp only [List.append_assoc, List.cons_append]
  rw [hE, insE_found hb]
  refine ⟨⟨upd Mx p Q', s.th.turn hB s.at_ hT hQ g1 g2 g3, s.fr.trans (Fr.turn s.at_ hT g1 g2 g3), H, FS, ?_, hN⟩, hasE_found⟩
  rw [hk] at hT'
  simpa [List.append_assoc] using hT'
/-- the key comes into a leaf. -/
theorem Step.put {v : Int} {Q' : Pg} (s : Step B w M d root k es0 p h Q Mx W) (hB : B ≤ W.heap.size) (hh : hit Q.ks k = false) (h0 : h = 0) (hT : Touch W W' (p :: Q.blocks)) (hQ : PageAt W' p Q') (h1 : Q'.ks = insAt Q.ks (place Q.ks k) k) (h2 : Q'.vs = insAt Q.vs (place Q.ks k) v) (h3 : Q'.kids = Q.kids)
    (g1 : Held W Q.gk Q.ck Q'.gk Q'.ck) (g2 : Held W Q.gv Q.cv Q'.gv Q'.cv) (g3 : Held W Q.gc Q.cc Q'.gc Q'.cc) : Fin B w M d root (insE k v es0) W' ∧ hasE k es0 = false := by
  obtain ⟨pre, es, post, lo, fs, c, f, t, hn, hlo, he, hpre, hpost, hcl⟩ := s.tree
  have hu : Up es := by have := s.up; rw [he] at this; exact this.right.left
  have hr : Q.ks.length ≤ 2 * d - 2 := s.room.resolve_right (fun h => h.1 h0)
  have hd := s.d2
  subst h0
  have hc : ∀ i, c i = [] := by
    rcases t.kids with ⟨_, _, hc⟩ | ⟨h', e, _⟩
    · exact fun i => (hc i).1
    · cases e
  obtain ⟨H, FS, hT', hN⟩ := hcl (upd Mx p Q') _ [p] (fun x _ hx => upd_other _ _ (fun e => hx (by rw [e]; exact t.tr.root_mem))) (t.put (v := v) (lo' := max lo 1) (place_le _ _) (by have := t.lo; omega) (by omega) h1 h2 h3) (by simp) (fun x hx => .inl (by rw [List.mem_singleton.1 hx]; exact t.tr.root_mem))
  have hb : ∀ e ∈ pre ++ flat c Q (place Q.ks k), bel e.1 k = true := by
    intro e hm
    rcases List.mem_append.1 hm with hm | hm
    · exact hpre e hm
    · exact flat_below hu t.es k _ (Nat.le_refl _) e hm
  have ha : ∀ e ∈ seg c Q (place Q.ks k) Q.ks.length ++ post, bel k e.1 = true := by
    intro e hm
    rcases List.mem_append.1 hm with hm | hm
    · exact t.above hu hh e hm
    · exact hpost e hm
  have hE : es0 = (pre ++ flat c Q (place Q.ks k)) ++ (seg c Q (place Q.ks k) Q.ks.length ++ post) := by
    rw [he, t.part (place_le Q.ks k), hc]
    simp [List.append_assoc]
  rw [hE, insE_new hb ha]
  refine ⟨⟨upd Mx p Q', s.th.turn hB s.at_ hT hQ g1 g2 g3, s.fr.trans (Fr.turn s.at_ hT g1 g2 g3), H, FS, ?_, hN⟩, hasE_new hb ha⟩
  simpa [List.append_assoc] using hT'
/-- the kid where the key belongs. -/
theorem Step.kid {h' : Nat} (s : Step B w M d root k es0 p (h' + 1) Q Mx W) (hh : hit Q.ks k = false) : ∃ L, Mx (Q.kids.getD (place Q.ks k) 0) = some L ∧ Q.kids.getD (place Q.ks k) 0 ≠ p ∧ L.vs.length = L.ks.length ∧ L.ks.length ≤ 2 * d - 1 ∧ (L.kids = [] ∨ L.kids.length = L.ks.length + 1) ∧
    (L.ks.length ≠ 2 * d - 1 → Step B w M d root k es0 (Q.kids.getD (place Q.ks k) 0) h' L Mx W) := by
  obtain ⟨pre, es, post, lo, fs, c, f, t, hn, hlo, he, hpre, hpost, hcl⟩ := s.tree
  have hu : Up es := by have := s.up; rw [he] at this; exact this.right.left
  have hd := s.d2
  have hpl := place_le Q.ks k
  have ha := t.apart hn
  rcases t.kids with ⟨e, _⟩ | ⟨h2, e, hk, hT⟩
  · cases e
  · obtain rfl : h' = h2 := by omega
    have hTi := hT _ hpl
    obtain ⟨L, c2, f2, n⟩ := hTi.node
    refine ⟨L, n.at_, fun e => ha.own (place Q.ks k) (by omega) (by rw [← e]; exact hTi.root_mem), n.vs, n.hi, ?_, fun hfull => ⟨s.th, s.fr, s.up, hd, .inl (by have := n.hi; omega), pre ++ flat c Q (place Q.ks k), c (place Q.ks k), seg c Q (place Q.ks k) Q.ks.length ++ post, d - 1, f (place Q.ks k), c2, f2, n, ha.one (place Q.ks k) (by omega), .inl (by omega), ?_, ?_, ?_, ?_⟩⟩
    · rcases n.kids with ⟨_, e, _⟩ | ⟨_, _, e, _⟩
      · exact .inl e
      · exact .inr e
    · rw [he, t.part hpl]
      simp [List.append_assoc]
    · intro e hm
      rcases List.mem_append.1 hm with hm | hm
      · exact hpre e hm
      · exact flat_below hu t.es k _ (Nat.le_refl _) e hm
    · intro e hm
      rcases List.mem_append.1 hm with hm | hm
      · exact t.above hu hh e hm
      · exact hpost e hm
    · intro M' es' fs' hM ht hn' hfs
      obtain ⟨FS, hT2, hN2, hS2⟩ := t.step hn hpl hM (ht.lower (by omega)) hn' hfs
      obtain ⟨H, FS', hT3, hN3⟩ := hcl M' _ FS (fun x hx hm => hM x hx (fun h => hm (t.mem hpl h))) (by rw [show max lo 1 = lo by omega]; exact hT2) hN2 hS2
      refine ⟨H, FS', ?_, hN3⟩
      simpa [List.append_assoc] using hT3
/-- a full kid is parted in two. -/
theorem Step.split {h' lp rp : Nat} {L P' L' R' : Pg} (s : Step B w M d root k es0 p (h' + 1) Q Mx W) (hlp : Q.kids.getD (place Q.ks k) 0 = lp) (hl : Mx lp = Option.some L) (hne : lp ≠ p) (hln : L.ks.length = 2 * d - 1)
    (hr : Mx rp = Option.none) (n1 : rp ≠ p) (n2 : rp ≠ lp) (st : St B W Mx p P' lp L' rp R' W') (hP : P'.ks = insAt Q.ks (place Q.ks k) (L.ks.getD (d - 1) k0) ∧ P'.vs = insAt Q.vs (place Q.ks k) (L.vs.getD (d - 1) 0) ∧ P'.kids = insAt Q.kids (place Q.ks k + 1) rp)
    (hL : L'.ks = L.ks.take (d - 1) ∧ L'.vs = L.vs.take (d - 1) ∧ L'.kids = L.kids.take d) (hR : R'.ks = L.ks.drop d ∧ R'.vs = L.vs.drop d ∧ R'.kids = L.kids.drop d) :
    Step B w M d root k es0 p (h' + 1) P' (N3 Mx p P' lp L' rp R') W' ∧ P'.ks.length = Q.ks.length + 1 ∧ Q.ks.length ≤ 2 * d - 2 := by
  have hd := s.d2
  have hroom : Q.ks.length ≤ 2 * d - 2 := by
    rcases s.room with h | ⟨_, L2, h1, h2⟩
    · exact h
    · rw [hlp, hl] at h1
      cases h1
      exact absurd hln h2
  obtain ⟨pre, es, post, lo, fs, c, f, t, hn, hlo, he, hpre, hpost, hcl⟩ := s.tree
  have hpl := place_le Q.ks k
  have np : P'.ks.length = Q.ks.length + 1 := by rw [hP.1]; exact insAt_len _ _ _
  have hoth : ∀ x, x ≠ p → x ≠ lp → x ≠ rp → N3 Mx p P' lp L' rp R' x = Mx x := fun x a b c => by unfold N3; rw [if_neg a, if_neg b, if_neg c]
  obtain ⟨c', f', fs', t', hn', hs'⟩ := t.split (M' := N3 Mx p P' lp L' rp R') (lo' := lo) hn hpl hd hlp hl hln hr N3.own (N3.l hne) (N3.r n1 n2) hoth hroom hP hL hR (by have := t.lo; omega)
  have hlm : lp ∈ fs := by
    rcases t.kids with ⟨e, _⟩ | ⟨h2, e, hk, hT⟩
    · cases e
    · have := (hT _ hpl).root_mem
      rw [hlp] at this
      exact t.mem hpl this
  have hpm := t.tr.root_mem
  refine ⟨⟨st.th, s.fr.trans st.fr, s.up, hd, .inr ⟨by omega, ?_⟩, pre, es, post, lo, fs', c', f', t', hn', hlo, he, hpre, hpost, ?_⟩, np, hroom⟩
  · have nl : L'.ks.length ≠ 2 * d - 1 := by rw [hL.1, List.length_take]; omega
    have nr : R'.ks.length ≠ 2 * d - 1 := by rw [hR.1, List.length_drop]; omega
    have hkl : place Q.ks k + 1 ≤ Q.kids.length := by
      rcases t.kids with ⟨e, _⟩ | ⟨h2, e, hk, hT⟩
      · cases e
      · omega
    rw [hP.1, hP.2.2, place_ins]
    split
    · rw [insAt_at hkl]
      exact ⟨R', N3.r n1 n2, nr⟩
    · rw [insAt_lo (by omega) hkl, hlp]
      exact ⟨L', N3.l hne, nl⟩
  · intro M' es' fs2 hM ht hn2 hfs2
    refine hcl M' es' fs2 (fun x hx hm => ?_) ht hn2 (fun x hx => ?_)
    · have h1 : x ≠ p := fun e => hm (by rw [e]; exact hpm)
      have h2 : x ≠ lp := fun e => hm (by rw [e]; exact hlm)
      have h3 : x ≠ rp := fun e => hx (by rw [e]; exact hr)
      rw [← hoth x h1 h2 h3]
      refine hM x (by rw [hoth x h1 h2 h3]; exact hx) (fun h => ?_)
      rcases hs' x h with h | h
      · exact hm h
      · exact h3 h
    · rcases hfs2 x hx with h | h
      · rcases hs' x h with h | rfl
        · exact .inl h
        · exact .inr hr
      · refine .inr ?_
        have h1 : x ≠ p := fun e => by rw [e, N3.own] at h; cases h
        have h2 : x ≠ lp := fun e => by rw [e, N3.l hne] at h; cases h
        have h3 : x ≠ rp := fun e => by rw [e, N3.r n1 n2] at h; cases h
        rw [← hoth x h1 h2 h3]
        exact h
end
end Go.Proofs.Ytmmikolcipcldaa
