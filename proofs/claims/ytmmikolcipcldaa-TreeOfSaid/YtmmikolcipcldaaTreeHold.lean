/-
  What is proved here: what the parts of the tree's Put leave: the root, the key's box, the pages (chapter 15). Conditions: each theorem's own.
-/
import Derived.Test.YtmmikolcipcldaaTreeStep
import Derived.Test.YtmmikolcipcldaaTreeSplit
import Derived.Test.YtmmikolcipcldaaTreeRange
namespace Go.Proofs.Ytmmikolcipcldaa
open Go.RowKit Go.Deep

/-- a tree: its pages, its entries. -/
structure Tree (B : Nat) (w : World) (M : Nat → Option Pg) (tr d : Nat) (es : List En) : Prop where
  th : TH B w M
  size : B ≤ w.heap.size
  own : tr < B
  up : Up es
  at_ : ∃ root, TreeAt w tr d root es.length ∧ ((root = none ∧ es = []) ∨ ∃ p H FS, root = some p ∧ Tr d M H 1 p es FS ∧ FS.Nodup)

section
variable {B : Nat} {w W W' : World} {M M' Mx : Nat → Option Pg} {tr d p kb : Nat} {es : List En} {k : Ky}
theorem TH.far {L : List Nat} (h : TH B W M) (k : Touch W W' L) (hL : ∀ x ∈ L, x < B) : TH B W' M :=
  ⟨fun hp => (h.page hp).touch k (fun hm => by have := hL _ hm; have := (h.low hp).1; omega) (fun hc hm => by have := hL _ hm; have := (h.low hp).2.1 hc; omega) (fun hc hm => by have := hL _ hm; have := (h.low hp).2.2.1 hc; omega) (fun hc hm => by have := hL _ hm; have := (h.low hp).2.2.2 hc; omega),
    h.low, h.sepk, h.sepv, h.sepc⟩
/-- the tree's struct, the key's box. -/
structure Keep (B : Nat) (M : Nat → Option Pg) (tr d : Nat) (root : Option Nat) (cnt : Int) (kb : Nat) (k : Ky) (W : World) : Prop where
  th : TH B W M
  size : B ≤ W.heap.size
  own : tr < B
  tree : TreeAt W tr d root cnt
  key : Blk W kb 24 k.cells
  free : ¬ Own M kb
  ne : tr ≠ kb
theorem Keep.fr {root : Option Nat} {cnt : Int} (h : Keep B M tr d root cnt kb k W) (hf : Fr [] M W M' W') (ht : TH B W' M') : Keep B M' tr d root cnt kb k W' :=
  ⟨ht, Nat.le_trans h.size hf.size, h.own, hf.blk h.tree (by simp) (h.th.free_low h.own), hf.blk h.key (by simp) h.free, (hf.free kb h.key.lt (by simp) h.free).1, h.ne⟩
theorem Keep.root {root root' : Option Nat} {cnt : Int} (h : Keep B M tr d root cnt kb k W) {v : Value} (hv : v = .pointer (root'.map (fun p => ⟨p, 0, none⟩))) : Keep B M tr d root' cnt kb k (W.setCell ⟨tr, 1, none⟩ v) := by
  subst hv
  have k1 := Touch.set W ⟨tr, 1, none⟩ (.pointer (root'.map (fun p => ⟨p, 0, none⟩))) [tr] (by simp)
  exact ⟨h.th.far k1 (fun x hx => by rw [List.mem_singleton.1 hx]; exact h.own), Nat.le_trans h.size k1.size, h.own, Blk.set_ h.tree 1 _, h.key.touch k1 (by simp only [List.mem_singleton]; exact fun e => h.ne e.symm), h.free, h.ne⟩
theorem Keep.count {root : Option Nat} {cnt cnt' : Int} (h : Keep B M tr d root cnt kb k W) {v : Value} (hv : v = .int .i64 cnt') : Keep B M tr d root cnt' kb k (W.setCell ⟨tr, 2, none⟩ v) := by
  subst hv
  have k1 := Touch.set W ⟨tr, 2, none⟩ (.int .i64 cnt') [tr] (by simp)
  exact ⟨h.th.far k1 (fun x hx => by rw [List.mem_singleton.1 hx]; exact h.own), Nat.le_trans h.size k1.size, h.own, Blk.set_ h.tree 2 _, h.key.touch k1 (by simp only [List.mem_singleton]; exact fun e => h.ne e.symm), h.free, h.ne⟩
/-- a page that is made. -/
theorem Keep.make {root : Option Nat} {cnt : Int} {P : Pg} (h : Keep B M tr d root cnt kb k W) (hb : Below W.heap.size W W') (hp : W.heap.size ≤ p) (hP : PageAt W' p P) (h1 : 0 < P.ck → W.heap.size ≤ P.gk) (h2 : 0 < P.cv → W.heap.size ≤ P.gv) (h3 : 0 < P.cc → W.heap.size ≤ P.gc) :
    Keep B (upd M p P) tr d root cnt kb k W' ∧ M p = none := by
  have hn : M p = none := by
    cases e : M p with
    | none => rfl
    | some Q => have := (h.th.page e).blk.lt; omega
  exact ⟨h.fr (Fr.make hb hp h1 h2 h3) (h.th.make h.size hb hp hP h1 h2 h3), hn⟩
def P00 : Pg := ⟨[], [], [], 0, 0, 0, 0, 0, 0⟩
theorem page_zero (W : World) : PageAt (W.alloc (.cells #[.slice none 0 0, .slice none 0 0, .slice none 0 0] 82)) W.heap.size P00 :=
  ⟨Blk.new _ _ _, ⟨Nat.le_refl _, rfl, fun h => absurd h (by simp [P00])⟩, ⟨Nat.le_refl _, rfl, fun h => absurd h (by simp [P00])⟩, ⟨Nat.le_refl _, rfl, fun h => absurd h (by simp [P00])⟩⟩
def P01 (p b : Nat) : Pg := ⟨[], [], [p], 0, 0, b, 0, 0, 1⟩
theorem page_root (W : World) (p : Nat) : PageAt ((W.alloc (.cells #[.pointer (some ⟨p, 0, none⟩)] 69)).alloc (.cells #[.slice none 0 0, .slice none 0 0, .slice (some ⟨W.heap.size, 0, none⟩) 1 1] 82)) (W.heap.size + 1) (P01 p W.heap.size) :=
  ⟨Blk.at_end _ _ _ (by simp), ⟨Nat.le_refl _, rfl, fun h => absurd h (by simp [P01])⟩, ⟨Nat.le_refl _, rfl, fun h => absurd h (by simp [P01])⟩, ⟨Nat.le_refl _, rfl, fun _ => ⟨_, (Blk.new _ _ _).alloc _, Nat.le_refl _, rfl⟩⟩⟩
theorem Step.start {H lo : Nat} {FS : List Nat} {Q : Pg} (hth : TH B W Mx) (hup : Up es) (hd2 : 2 ≤ d) (t : Tr d Mx H lo p es FS) (hn : FS.Nodup) (hlo : 1 ≤ lo ∨ H = 0) (hp : Mx p = some Q) (hroom : Q.ks.length ≤ 2 * d - 2) : Step B W Mx d p k es p H Q Mx W := by
  obtain ⟨P, c, f, n⟩ := t.node
  obtain rfl : Q = P := by have := n.at_; rw [hp] at this; exact Option.some.inj this
  exact ⟨hth, Fr.refl _ _ _, hup, hd2, .inl hroom, [], es, [], lo, FS, c, f, n, hn, hlo, by simp, fun e h => absurd h (by simp), fun e h => absurd h (by simp), Closes.root (by omega)⟩
/-- a full root is parted in two. -/
theorem Tr.rooted {H lo q rp b : Nat} {FS : List Nat} {L P' L' R' : Pg} (t : Tr d M H lo p es FS) (hn : FS.Nodup) (hd2 : 2 ≤ d) (hl : M p = some L) (hln : L.ks.length = 2 * d - 1) (hq : M q = none) (hne : p ≠ q) (hr : upd M q (P01 p b) rp = none) (n1 : rp ≠ q) (n2 : rp ≠ p)
    (hP : P'.ks = insAt [] 0 (L.ks.getD (d - 1) k0) ∧ P'.vs = insAt [] 0 (L.vs.getD (d - 1) 0) ∧ P'.kids = insAt [p] (0 + 1) rp)
    (hL : L'.ks = L.ks.take (d - 1) ∧ L'.vs = L.vs.take (d - 1) ∧ L'.kids = L.kids.take d) (hR : R'.ks = L.ks.drop d ∧ R'.vs = L.vs.drop d ∧ R'.kids = L.kids.drop d) :
    ∃ FS', Tr d (N3 (upd M q (P01 p b)) q P' p L' rp R') (H + 1) 1 q es FS' ∧ FS'.Nodup := by
  have hqf : q ∉ FS := fun hm => t.live q hm hq
  have t2 : Tr d (upd M q (P01 p b)) H (d - 1) p es FS := by
    obtain ⟨P, c, f, n⟩ := t.node
    obtain rfl : L = P := by have := n.at_; rw [hl] at this; exact Option.some.inj this
    exact Tr.frame (Node.tr ⟨n.at_, n.vs, by omega, n.hi, n.es, n.fs, n.kids⟩) (fun x hx => upd_other _ _ (fun e => hqf (by rw [← e]; exact hx)))
  have nd : Node d (upd M q (P01 p b)) (H + 1) 0 q es (q :: (List.range (0 + 1)).flatMap (fun _ => FS)) (P01 p b) (fun _ => es) (fun _ => FS) :=
    ⟨upd_same _ _ _, rfl, Nat.le_refl _, Nat.zero_le _, by simp [P01, flat], rfl, .inr ⟨H, rfl, rfl, fun i hi => by obtain rfl : i = 0 := Nat.le_zero.1 hi; exact t2⟩⟩
  have hnd : (q :: (List.range (0 + 1)).flatMap (fun _ => FS)).Nodup := by simp [hqf, hn]
  obtain ⟨c', f', fs', n', h1, _⟩ := nd.split (i := 0) (lp := p) (rp := rp) (lo' := 1) (L := L) (P' := P') (L' := L') (R' := R') (M' := N3 (upd M q (P01 p b)) q P' p L' rp R') hnd (Nat.zero_le _) hd2 rfl (by rw [upd_other _ _ hne]; exact hl) hln hr N3.own (N3.l hne) (N3.r n1 n2)
    (fun x a b c => by unfold N3; rw [if_neg a, if_neg b, if_neg c]) (Nat.zero_le _) hP hL hR (Nat.le_refl _)
  exact ⟨fs', n'.tr, h1⟩
/-- a list's value is turned. -/
theorem RowAt.set_v {g n c i : Nat} {vs : List Int} {v : Int} (h : RowAt W g 3 1 n c (vcells vs)) : RowAt (W.setCell ⟨g, i, none⟩ (.int .i64 v)) g 3 1 n c (vcells (vs.set i v)) := by
  refine ⟨h.1, by rw [← h.2.1]; simp [vcells], fun hc => ?_⟩
  obtain ⟨cur, h1, h2, h3⟩ := h.2.2 hc
  refine ⟨_, Blk.set_ h1 i _, by simpa using h2, ?_⟩
  rw [Array.toList_setIfInBounds, List.take_set, h3]
  simp [vcells, List.map_set]
theorem RowAt.frozen {g n c i size : Nat} {t : TypeId} {xs : List Value} (h : RowAt W g t size n c xs) (hc : 0 < c) : W.frozen? ⟨g, i, none⟩ = false := by
  obtain ⟨cur, h1, _, _⟩ := h.2.2 hc
  exact Blk.frozen h1 i
theorem PageAt.set_v {P : Pg} {i : Nat} {v : Int} (h : PageAt W p P) (hi : i < P.vs.length) : PageAt (W.setCell ⟨P.gv, i, none⟩ (.int .i64 v)) p { P with vs := P.vs.set i v } := by
  have hc : 0 < P.cv := h.vals.pos (by omega)
  have hT := Touch.set W ⟨P.gv, i, none⟩ (.int .i64 v) [P.gv] (by simp)
  have hp : p ∉ [P.gv] := fun hm => h.far.2.1 hc (by rw [List.mem_singleton] at hm ⊢; exact hm.symm)
  refine ⟨?_, h.keys.touch hT (fun hk hm => rows_apart h.keys h.vals (by decide) hk hc (List.mem_singleton.1 hm)), ?_, h.kids.touch hT (fun hk hm => rows_apart h.kids h.vals (by decide) hk hc (List.mem_singleton.1 hm))⟩
  · have := h.blk.touch hT hp
    simp only [List.length_set]
    exact this
  · simp only [List.length_set]
    exact h.vals.set_v
/-- a page, as two stores leave it. -/
theorem page_two {p gk gv gc ck cv cc : Nat} {a b : Value} {ks : List Ky} {vs : List Int} {kids : List Nat} (hb : Blk W p 82 #[a, b, sl gc kids.length cc])
    (hk : RowAt W gk 24 2 ks.length ck (kcells ks)) (hv : RowAt W gv 3 1 vs.length cv (vcells vs)) (hc : RowAt W gc 69 1 kids.length cc (pcells kids)) (h1 : 0 < ck) (h2 : 0 < cv) :
    PageAt ((W.setCell ⟨p, 0, none⟩ (.slice (some ⟨gk, 0, none⟩) ks.length ck)).setCell ⟨p, 1, none⟩ (.slice (some ⟨gv, 0, none⟩) vs.length cv)) p ⟨ks, vs, kids, gk, gv, gc, ck, cv, cc⟩ := by
  have hT : Touch W ((W.setCell ⟨p, 0, none⟩ (.slice (some ⟨gk, 0, none⟩) ks.length ck)).setCell ⟨p, 1, none⟩ (.slice (some ⟨gv, 0, none⟩) vs.length cv)) [p] :=
    (Touch.set _ ⟨p, 0, none⟩ _ _ (by simp)).trans (Touch.set _ ⟨p, 1, none⟩ _ _ (by simp))
  refine ⟨?_, hk.touch hT (row_far hb hk (by decide)), hv.touch hT (row_far hb hv (by decide)), hc.touch hT (row_far hb hc (by decide))⟩
  simp only [sl_pos _ _ _ h1, sl_pos _ _ _ h2]
  exact (hb.set_ 0 _).set_ 1 _
/-- Put is done. -/
theorem Fin.done {wz : World} {M2 : Nat → Option Pg} {q : Nat} {cnt : Int} {es' : List En} (hf : Fin B wz M2 d q es' W) (hK : Keep B M2 tr d (some q) cnt kb k wz) (hF : Fr [tr] M w M2 wz) (hup : Up es') (hc : cnt = es'.length) : ∃ M', Tree B W M' tr d es' ∧ Fr [tr] M w M' W := by
  obtain ⟨M', hth, hfr, H, FS, hT, hN⟩ := hf.st
  have hk := hK.fr hfr hth
  subst hc
  exact ⟨M', ⟨hth, hk.size, hk.own, hup, some q, hk.tree, .inr ⟨q, H, FS, rfl, hT, hN⟩⟩, hF.trans (hfr.mono (by simp))⟩
theorem Fin.counted {wz : World} {M2 : Nat → Option Pg} {q : Nat} {cnt : Int} {es' : List En} {u : Value} (hf : Fin B wz M2 d q es' W) (hK : Keep B M2 tr d (some q) cnt kb k wz) (hF : Fr [tr] M w M2 wz) (hup : Up es') (hu : u = .int .i64 es'.length) :
    ∃ M', Tree B (W.setCell ⟨tr, 2, none⟩ u) M' tr d es' ∧ Fr [tr] M w M' (W.setCell ⟨tr, 2, none⟩ u) := by
  obtain ⟨M', hth, hfr, H, FS, hT, hN⟩ := hf.st
  have hk := (hK.fr hfr hth).count hu
  exact ⟨M', ⟨hk.th, hk.size, hk.own, hup, some q, hk.tree, .inr ⟨q, H, FS, rfl, hT, hN⟩⟩, hF.trans ((hfr.mono (by simp)).trans (Fr.of_touch (Touch.set _ ⟨tr, 2, none⟩ _ _ (by simp))))⟩
end
end Go.Proofs.Ytmmikolcipcldaa
