/-
  What is proved here: a page of a tree, seen as its entries and its kids' entries; what becomes of the tree when a page is turned, when a kid's tree is turned, when a kid is parted in two (chapter 15). Conditions: each theorem's own.
-/
import Derived.Test.YtmmikolcipcldaaTreeGrow
namespace Go.Proofs.Ytmmikolcipcldaa
open Go.RowKit Go.Deep

theorem seg_same {c c' : Nat → List En} {P P' : Pg} {i n : Nat} (h : ∀ j, i ≤ j → j < n → ent P' j = ent P j ∧ c' (j + 1) = c (j + 1)) : seg c' P' i n = seg c P i n := seg_congr (s := 0) h

/-- pages that are all apart. -/
structure Apart (m p : Nat) (f : Nat → List Nat) : Prop where
  own : ∀ i, i < m → p ∉ f i
  one : ∀ i, i < m → (f i).Nodup
  two : ∀ i j, i < m → j < m → i ≠ j → ∀ x ∈ f i, x ∉ f j
theorem apart_iff {m p : Nat} {f : Nat → List Nat} : (p :: (List.range m).flatMap f).Nodup ↔ Apart m p f := by
  have hmem : ∀ x, x ∈ (List.range m).flatMap f ↔ ∃ i, i < m ∧ x ∈ f i := fun x => by
    rw [List.mem_flatMap]
    constructor
    · rintro ⟨i, h1, h2⟩; exact ⟨i, List.mem_range.1 h1, h2⟩
    · rintro ⟨i, h1, h2⟩; exact ⟨i, List.mem_range.2 h1, h2⟩
  constructor
  · intro h
    obtain ⟨h1, h2⟩ := List.nodup_cons.1 h
    obtain ⟨h3, h4⟩ := List.pairwise_flatMap.1 h2
    have h5 : ∀ i j, i < j → j < m → ∀ x ∈ f i, ∀ y ∈ f j, x ≠ y := fun i j hij hj => by
      have := List.pairwise_iff_getElem.1 h4 i j (by rw [List.length_range]; omega) (by rw [List.length_range]; omega) hij
      simpa using this
    refine ⟨fun i hi hm => h1 ((hmem p).2 ⟨i, hi, hm⟩), fun i hi => h3 i (List.mem_range.2 hi), fun i j hi hj hne x hx hy => ?_⟩
    rcases Nat.lt_or_gt_of_ne hne with h | h
    · exact h5 i j h hj x hx x hy rfl
    · exact h5 j i h hi x hy x hx rfl
  · intro h
    refine List.nodup_cons.2 ⟨fun hm => ?_, ?_⟩
    · obtain ⟨i, hi, hx⟩ := (hmem p).1 hm
      exact h.own i hi hx
    · refine List.pairwise_flatMap.2 ⟨fun i hi => h.one i (List.mem_range.1 hi), ?_⟩
      rw [List.pairwise_iff_getElem]
      intro i j hi hj hij
      rw [List.length_range] at hi hj
      simp only [List.getElem_range]
      intro x hx y hy e
      subst e
      exact h.two i j hi hj (by omega) x hx hy
theorem mem_fs {m p x : Nat} {f : Nat → List Nat} : x ∈ p :: (List.range m).flatMap f ↔ x = p ∨ ∃ i, i < m ∧ x ∈ f i := by
  rw [List.mem_cons, List.mem_flatMap]
  constructor
  · rintro (h | ⟨i, h1, h2⟩)
    · exact .inl h
    · exact .inr ⟨i, List.mem_range.1 h1, h2⟩
  · rintro (h | ⟨i, h1, h2⟩)
    · exact .inl h
    · exact .inr ⟨i, List.mem_range.2 h1, h2⟩

/-- a page of a tree, its kids' entries and pages. -/
structure Node (d : Nat) (M : Nat → Option Pg) (h lo p : Nat) (es : List En) (fs : List Nat) (P : Pg) (c : Nat → List En) (f : Nat → List Nat) : Prop where
  at_ : M p = some P
  vs : P.vs.length = P.ks.length
  lo : lo ≤ P.ks.length
  hi : P.ks.length ≤ 2 * d - 1
  es : es = flat c P P.ks.length ++ c P.ks.length
  fs : fs = p :: (List.range (P.ks.length + 1)).flatMap f
  kids : (h = 0 ∧ P.kids = [] ∧ (∀ i, c i = [] ∧ f i = [])) ∨ ∃ h', h = h' + 1 ∧ P.kids.length = P.ks.length + 1 ∧ ∀ i, i ≤ P.ks.length → Tr d M h' (d - 1) (P.kids.getD i 0) (c i) (f i)
section
variable {d : Nat} {M M' : Nat → Option Pg} {h lo p : Nat} {es : List En} {fs : List Nat} {P : Pg} {c : Nat → List En} {f : Nat → List Nat}
theorem Tr.node (t : Tr d M h lo p es fs) : ∃ P c f, Node d M h lo p es fs P c f := by
  cases h with
  | zero =>
    obtain ⟨P, h1, h2, h3, h4, h5, h6, h7⟩ := t
    exact ⟨P, fun _ => [], fun _ => [], h1, h2, h3, h4, by simpa using h6, by rw [h7]; simp, .inl ⟨rfl, h5, fun _ => ⟨rfl, rfl⟩⟩⟩
  | succ h =>
    obtain ⟨P, c, f, h1, h2, h3, h4, h5, h6, h7, h8⟩ := t
    exact ⟨P, c, f, h1, h2, h3, h4, h7, h8, .inr ⟨h, rfl, h5, h6⟩⟩
theorem Node.tr (t : Node d M h lo p es fs P c f) : Tr d M h lo p es fs := by
  rcases t.kids with ⟨rfl, h1, h2⟩ | ⟨h', rfl, h1, h2⟩
  · refine ⟨P, t.at_, t.vs, t.lo, t.hi, h1, ?_, ?_⟩
    · rw [t.es, (h2 _).1, List.append_nil]
      exact flat_congr (fun j _ => ⟨rfl, (h2 j).1⟩)
    · rw [t.fs]
      congr 1
      rw [List.flatMap_eq_nil_iff]
      exact fun i _ => (h2 i).2
  · exact ⟨P, c, f, t.at_, t.vs, t.lo, t.hi, h1, h2, t.es, t.fs⟩
theorem Tr.live : ∀ {h lo p : Nat} {es : List En} {fs : List Nat}, Tr d M h lo p es fs → ∀ x ∈ fs, M x ≠ none
  | 0, _, _, _, _, t, x, hx => by
    obtain ⟨P, h1, _, _, _, _, _, rfl⟩ := t
    rw [List.mem_singleton.1 hx, h1]
    simp
  | h + 1, _, _, _, _, t, x, hx => by
    obtain ⟨P, c, f, h1, _, _, _, _, h6, _, rfl⟩ := t
    rcases mem_fs.1 hx with rfl | ⟨i, hi, hx⟩
    · rw [h1]; simp
    · exact Tr.live (h6 i (by omega)) x hx
theorem Tr.frame : ∀ {h lo p : Nat} {es : List En} {fs : List Nat}, Tr d M h lo p es fs → (∀ x ∈ fs, M' x = M x) → Tr d M' h lo p es fs
  | 0, _, _, _, _, t, hx => by
    obtain ⟨P, h1, h2, h3, h4, h5, h6, rfl⟩ := t
    exact ⟨P, (hx _ (by simp)).trans h1, h2, h3, h4, h5, h6, rfl⟩
  | h + 1, _, _, _, _, t, hx => by
    obtain ⟨P, c, f, h1, h2, h3, h4, h5, h6, h7, rfl⟩ := t
    exact ⟨P, c, f, (hx _ (by simp)).trans h1, h2, h3, h4, h5, fun i hi => Tr.frame (h6 i hi) (fun x hm => hx x (mem_fs.2 (.inr ⟨i, by omega, hm⟩))), h7, rfl⟩
theorem Tr.lower {lo' : Nat} (t : Tr d M h lo p es fs) (hl : lo' ≤ lo) : Tr d M h lo' p es fs := by
  obtain ⟨P, c, f, n⟩ := t.node
  exact Node.tr ⟨n.at_, n.vs, Nat.le_trans hl n.lo, n.hi, n.es, n.fs, n.kids⟩
/-- where the entries part. -/
theorem Node.part (t : Node d M h lo p es fs P c f) {i : Nat} (hi : i ≤ P.ks.length) : es = flat c P i ++ (c i ++ seg c P i P.ks.length) := by rw [t.es]; exact parted c P hi
theorem Node.partAt (t : Node d M h lo p es fs P c f) {i : Nat} (hi : i < P.ks.length) : es = flat c P i ++ (c i ++ (ent P i :: (c (i + 1) ++ seg c P (i + 1) P.ks.length))) := by rw [t.part (i := i) (by omega), seg_cons c P hi]
theorem Node.apart (t : Node d M h lo p es fs P c f) (hn : fs.Nodup) : Apart (P.ks.length + 1) p f := by rw [t.fs] at hn; exact apart_iff.1 hn
/-- a page's value is turned. -/
theorem Node.found {v : Int} {i : Nat} {P' : Pg} (t : Node d M h lo p es fs P c f) (hn : fs.Nodup) (hi : i < P.ks.length) (h1 : P'.ks = P.ks) (h2 : P'.vs = P.vs.set i v) (h3 : P'.kids = P.kids) :
    Tr d (upd M p P') h lo p (flat c P i ++ (c i ++ ((P.ks.getD i k0, v) :: (c (i + 1) ++ seg c P (i + 1) P.ks.length)))) fs := by
  have ha := t.apart hn
  refine Node.tr (P := P') (c := c) (f := f) ⟨upd_same _ _ _, by rw [h1, h2, List.length_set]; exact t.vs, by rw [h1]; exact t.lo, by rw [h1]; exact t.hi, ?_, by rw [h1]; exact t.fs, ?_⟩
  · rw [h1, parted c P' (show i ≤ P.ks.length by omega), seg_cons c P' hi]
    have hv : i < P.vs.length := by rw [t.vs]; exact hi
    have e1 : ent P' i = (P.ks.getD i k0, v) := by unfold ent; rw [h1, h2, set_at hv]
    have e2 : ∀ j, i ≠ j → ent P' j = ent P j := fun j hj => by unfold ent; rw [h1, h2, set_off hj]
    rw [e1, flat_congr (c := c) (c' := c) (P := P) (P' := P') (fun j hj => ⟨e2 j (by omega), rfl⟩), seg_same (i := i + 1) (n := P.ks.length) (c := c) (c' := c) (P := P) (P' := P') (fun j hj _ => ⟨e2 j (by omega), rfl⟩)]
  · rw [h3, h1]
    rcases t.kids with h | ⟨h', rfl, hk, hT⟩
    · exact .inl h
    · exact .inr ⟨h', rfl, hk, fun j hj => Tr.frame (hT j hj) (fun x hx => upd_other _ _ (fun e => ha.own j (by omega) (by rw [← e]; exact hx)))⟩
/-- an entry comes into a leaf. -/
theorem Node.put {k : Ky} {v : Int} {i lo' : Nat} {P' : Pg} (t : Node d M 0 lo p es fs P c f) (hi : i ≤ P.ks.length) (hlo : lo' ≤ P.ks.length + 1) (hhi : P.ks.length + 1 ≤ 2 * d - 1) (h1 : P'.ks = insAt P.ks i k) (h2 : P'.vs = insAt P.vs i v) (h3 : P'.kids = P.kids) :
    Tr d (upd M p P') 0 lo' p (flat c P i ++ ((k, v) :: seg c P i P.ks.length)) [p] := by
  have hl : P'.ks.length = P.ks.length + 1 := by rw [h1]; exact insAt_len _ _ _
  have hiv : i ≤ P.vs.length := by rw [t.vs]; exact hi
  rcases t.kids with ⟨_, hk, hc⟩ | ⟨h', e, _⟩
  · refine Node.tr (P := P') (c := c) (f := f) ⟨upd_same _ _ _, by rw [hl, h2, insAt_len, t.vs], by rw [hl]; exact hlo, by rw [hl]; exact hhi, ?_, ?_, .inl ⟨rfl, by rw [h3]; exact hk, hc⟩⟩
    · rw [hl, parted c P' (show i ≤ P.ks.length + 1 by omega), seg_cons c P' (show i < P.ks.length + 1 by omega), (hc i).1, (hc (i + 1)).1]
      have e1 : ent P' i = (k, v) := by unfold ent; rw [h1, h2, insAt_at hi, insAt_at hiv]
      rw [e1, flat_congr (c := c) (c' := c) (P := P) (P' := P') (fun j hj => ⟨by unfold ent; rw [h1, h2, insAt_lo hj hi, insAt_lo hj hiv], rfl⟩),
        seg_congr (s := 1) (c := c) (c' := c) (P := P) (P' := P') (fun j hj _ => ⟨by unfold ent; rw [h1, h2, insAt_hi hj hi, insAt_hi hj hiv], by rw [(hc _).1, (hc _).1]⟩)]
      rfl
    · congr 1
      rw [eq_comm, List.flatMap_eq_nil_iff]
      exact fun i _ => (hc i).2
  · cases e
/-- one kid's tree is turned. -/
theorem Node.step {h' i : Nat} {es' : List En} {fs' : List Nat} (t : Node d M (h' + 1) lo p es fs P c f) (hn : fs.Nodup) (hi : i ≤ P.ks.length) (hM : ∀ x, M x ≠ none → x ∉ f i → M' x = M x)
    (ht : Tr d M' h' (d - 1) (P.kids.getD i 0) es' fs') (hn' : fs'.Nodup) (hfs : ∀ x ∈ fs', x ∈ f i ∨ M x = none) :
    ∃ FS, Tr d M' (h' + 1) lo p (flat c P i ++ (es' ++ seg c P i P.ks.length)) FS ∧ FS.Nodup ∧ ∀ x ∈ FS, x ∈ fs ∨ M x = none := by
  have ha := t.apart hn
  rcases t.kids with ⟨e, _⟩ | ⟨h2, e, hk, hT⟩
  · cases e
  · obtain rfl : h' = h2 := by omega
    have hsome : ∀ j, j ≤ P.ks.length → ∀ x ∈ f j, M x ≠ none := fun j hj => (hT j hj).live
    refine ⟨_, Node.tr (P := P) (c := fun j => if j = i then es' else c j) (f := fun j => if j = i then fs' else f j) ⟨(hM p (by rw [t.at_]; simp) (ha.own i (by omega))).trans t.at_, t.vs, t.lo, t.hi, ?_, rfl, .inr ⟨h', rfl, hk, fun j hj => ?_⟩⟩, ?_, ?_⟩
    · have e1 : flat (fun j => if j = i then es' else c j) P i = flat c P i := flat_congr fun j hj => ⟨rfl, if_neg (by omega)⟩
      have e2 : seg (fun j => if j = i then es' else c j) P i P.ks.length = seg c P i P.ks.length := seg_same fun j hj _ => ⟨rfl, if_neg (by omega)⟩
      rw [parted _ P hi, if_pos rfl, e1, e2]
    · by_cases e : j = i
      · subst e
        simp only [if_true]
        exact ht
      · simp only [if_neg e]
        exact Tr.frame (hT j hj) (fun x hx => hM x (hsome j hj x hx) (ha.two j i (by omega) (by omega) e x hx))
    · refine apart_iff.2 ⟨fun j hj hm => ?_, fun j hj => ?_, fun j k hj hk' hne x hx hy => ?_⟩
      · by_cases e : j = i
        · subst e
          simp only [if_true] at hm
          rcases hfs p hm with h1 | h1
          · exact ha.own j hj h1
          · rw [t.at_] at h1; cases h1
        · simp only [if_neg e] at hm
          exact ha.own j hj hm
      · by_cases e : j = i
        · subst e; simp only [if_true]; exact hn'
        · simp only [if_neg e]; exact ha.one j hj
      · by_cases e : j = i
        · subst e
          simp only [if_true] at hx
          simp only [if_neg (Ne.symm hne)] at hy
          rcases hfs x hx with h1 | h1
          · exact ha.two j k hj hk' hne x h1 hy
          · exact hsome k (by omega) x hy h1
        · simp only [if_neg e] at hx
          by_cases e2 : k = i
          · subst e2
            simp only [if_true] at hy
            rcases hfs x hy with h1 | h1
            · exact ha.two j k hj hk' hne x hx h1
            · exact hsome j (by omega) x hx h1
          · simp only [if_neg e2] at hy
            exact ha.two j k hj hk' hne x hx hy
    · intro x hx
      rcases mem_fs.1 hx with rfl | ⟨j, hj, hx⟩
      · exact .inl (by rw [t.fs]; simp)
      · by_cases e : j = i
        · subst e
          simp only [if_true] at hx
          rcases hfs x hx with h1 | h1
          · exact .inl (by rw [t.fs]; exact mem_fs.2 (.inr ⟨j, hj, h1⟩))
          · exact .inr h1
        · simp only [if_neg e] at hx
          exact .inl (by rw [t.fs]; exact mem_fs.2 (.inr ⟨j, hj, hx⟩))
theorem Tr.root_mem (t : Tr d M h lo p es fs) : p ∈ fs := by
  obtain ⟨P, c, f, n⟩ := t.node
  rw [n.fs]; simp
theorem Node.mem (t : Node d M h lo p es fs P c f) {i x : Nat} (hi : i ≤ P.ks.length) (hx : x ∈ f i) : x ∈ fs := by
  rw [t.fs]; exact mem_fs.2 (.inr ⟨i, by omega, hx⟩)
/-- a full page's two halves. -/
theorem Tr.halves {h lo lp rp : Nat} {es : List En} {fs : List Nat} {L L' R' : Pg} (t : Tr d M h lo lp es fs) (hn : fs.Nodup) (hd : 2 ≤ d) (hl : M lp = some L) (hln : L.ks.length = 2 * d - 1)
    (hr : M rp = none) (l1 : M' lp = some L') (r1 : M' rp = some R') (hM : ∀ x ∈ fs, x ≠ lp → M' x = M x)
    (hL : L'.ks = L.ks.take (d - 1) ∧ L'.vs = L.vs.take (d - 1) ∧ L'.kids = L.kids.take d) (hR : R'.ks = L.ks.drop d ∧ R'.vs = L.vs.drop d ∧ R'.kids = L.kids.drop d) :
    ∃ el er fl fr, Tr d M' h (d - 1) lp el fl ∧ Tr d M' h (d - 1) rp er fr ∧ es = el ++ ((L.ks.getD (d - 1) k0, L.vs.getD (d - 1) 0) :: er) ∧ fl.Nodup ∧ fr.Nodup ∧ (∀ x ∈ fl, x ∈ fs) ∧ (∀ x ∈ fr, x ∈ fs ∨ x = rp) ∧ (∀ x ∈ fl, x ∉ fr) := by
  have hsome := t.live
  obtain ⟨P, c, f, n⟩ := t.node
  obtain rfl : L = P := by have := n.at_; rw [hl] at this; exact Option.some.inj this
  have ha := n.apart hn
  obtain ⟨k1, v1, c1⟩ := hL
  obtain ⟨k2, v2, c2⟩ := hR
  have nl : L'.ks.length = d - 1 := by rw [k1, List.length_take, hln]; omega
  have nr : R'.ks.length = d - 1 := by rw [k2, List.length_drop, hln]; omega
  have vl : L'.vs.length = d - 1 := by rw [v1, List.length_take, n.vs, hln]; omega
  have vr : R'.vs.length = d - 1 := by rw [v2, List.length_drop, n.vs, hln]; omega
  have hrp : ∀ j, j < 2 * d → rp ∉ f j := fun j hj hx => hsome rp (n.mem (i := j) (by omega) hx) hr
  have hlr : lp ≠ rp := fun e => by rw [e, hr] at hl; cases hl
  have hlo : ∀ j, j < 2 * d → lp ∉ f j := fun j hj => ha.own j (by omega)
  refine ⟨flat c L' (d - 1) ++ c (d - 1), flat (fun j => c (j + d)) R' (d - 1) ++ c (d - 1 + d), lp :: (List.range (d - 1 + 1)).flatMap f, rp :: (List.range (d - 1 + 1)).flatMap (fun j => f (j + d)), ?_, ?_, ?_, ?_, ?_, ?_, ?_, ?_⟩
  · refine Node.tr (P := L') (c := c) (f := f) ⟨l1, by omega, by omega, by omega, by rw [nl], by rw [nl], ?_⟩
    rcases n.kids with ⟨e, hk, hc⟩ | ⟨h', e, hk, hT⟩
    · exact .inl ⟨e, by rw [c1, hk, List.take_nil], hc⟩
    · refine .inr ⟨h', e, by rw [c1, List.length_take, nl, hk, hln]; omega, fun j hj => ?_⟩
      rw [c1, take_getD (by omega)]
      exact Tr.frame (hT j (by omega)) (fun x hx => hM x (n.mem (i := j) (by omega) hx) (fun e => hlo j (by omega) (by rw [← e]; exact hx)))
  · refine Node.tr (P := R') (c := fun j => c (j + d)) (f := fun j => f (j + d)) ⟨r1, by omega, by omega, by omega, by rw [nr], by rw [nr], ?_⟩
    rcases n.kids with ⟨e, hk, hc⟩ | ⟨h', e, hk, hT⟩
    · exact .inl ⟨e, by rw [c2, hk, List.drop_nil], fun j => hc _⟩
    · refine .inr ⟨h', e, by rw [c2, List.length_drop, nr, hk, hln]; omega, fun j hj => ?_⟩
      rw [c2, drop_getD]
      exact Tr.frame (hT (j + d) (by omega)) (fun x hx => hM x (n.mem (i := j + d) (by omega) hx) (fun e => hlo (j + d) (by omega) (by rw [← e]; exact hx)))
  · rw [n.partAt (i := d - 1) (by omega), show d - 1 + 1 = d by omega, hln]
    have e1 : flat c L' (d - 1) = flat c L (d - 1) := flat_congr fun j hj => ⟨by unfold ent; rw [k1, v1, take_getD hj, take_getD hj], rfl⟩
    have e2 : seg c L (0 + d) (d - 1 + d) = seg (fun j => c (j + d)) R' 0 (d - 1) := seg_congr fun j _ hj => ⟨by unfold ent; rw [k2, v2, drop_getD, drop_getD], by rw [show j + d + 1 = j + 1 + d by omega]⟩
    have e3 := parted (fun j => c (j + d)) R' (show 0 ≤ d - 1 by omega)
    rw [flat_zero] at e3
    simp only [List.nil_append, Nat.zero_add] at e2 e3
    rw [e1, show 2 * d - 1 = d - 1 + d by omega, e2, e3]
    simp [List.append_assoc, ent]
  · exact apart_iff.2 ⟨fun j hj => hlo j (by omega), fun j hj => ha.one j (by omega), fun i j hi hj => ha.two i j (by omega) (by omega)⟩
  · exact apart_iff.2 ⟨fun j hj => hrp _ (by omega), fun j hj => ha.one _ (by omega), fun i j hi hj hne => ha.two _ _ (by omega) (by omega) (by omega)⟩
  · intro x hx
    rcases mem_fs.1 hx with rfl | ⟨j, hj, hx⟩
    · rw [n.fs]; simp
    · exact n.mem (i := j) (by omega) hx
  · intro x hx
    rcases mem_fs.1 hx with rfl | ⟨j, hj, hx⟩
    · exact .inr rfl
    · exact .inl (n.mem (i := j + d) (by omega) hx)
  · intro x hx hy
    rcases mem_fs.1 hx with rfl | ⟨j, hj, hx⟩
    · rcases mem_fs.1 hy with e | ⟨k, hk, hy⟩
      · exact hlr e
      · exact hlo _ (by omega) hy
    · rcases mem_fs.1 hy with rfl | ⟨k, hk, hy⟩
      · exact hrp _ (by omega) hx
      · exact ha.two j (k + d) (by omega) (by omega) (by omega) x hx hy
/-- a full kid is parted in two. -/
theorem Node.split {h' i lp rp lo' : Nat} {L P' L' R' : Pg} (t : Node d M (h' + 1) lo p es fs P c f) (hn : fs.Nodup) (hi : i ≤ P.ks.length) (hd : 2 ≤ d) (hki : P.kids.getD i 0 = lp) (hl : M lp = some L) (hln : L.ks.length = 2 * d - 1)
    (hr : M rp = none) (p1 : M' p = some P') (l1 : M' lp = some L') (r1 : M' rp = some R') (hM : ∀ x, x ≠ p → x ≠ lp → x ≠ rp → M' x = M x) (hpn : P.ks.length ≤ 2 * d - 2)
    (hP : P'.ks = insAt P.ks i (L.ks.getD (d - 1) k0) ∧ P'.vs = insAt P.vs i (L.vs.getD (d - 1) 0) ∧ P'.kids = insAt P.kids (i + 1) rp)
    (hL : L'.ks = L.ks.take (d - 1) ∧ L'.vs = L.vs.take (d - 1) ∧ L'.kids = L.kids.take d) (hR : R'.ks = L.ks.drop d ∧ R'.vs = L.vs.drop d ∧ R'.kids = L.kids.drop d) (hlo : lo' ≤ P.ks.length + 1) :
    ∃ c' f' fs', Node d M' (h' + 1) lo' p es fs' P' c' f' ∧ fs'.Nodup ∧ (∀ x ∈ fs', x ∈ fs ∨ x = rp) := by
  have hsome := t.tr.live
  have ha := t.apart hn
  rcases t.kids with ⟨e, _⟩ | ⟨h2, e, hk, hT⟩
  · cases e
  · obtain rfl : h' = h2 := by omega
    have hTi := hT i hi
    rw [hki] at hTi
    have hlm : lp ∈ f i := hTi.root_mem
    have hfs : ∀ j, j ≤ P.ks.length → ∀ x ∈ f j, x ≠ p ∧ x ≠ rp := fun j hj x hx => ⟨fun e => ha.own j (by omega) (by rw [← e]; exact hx), fun e => hsome x (t.mem hj hx) (by rw [e]; exact hr)⟩
    obtain ⟨el, er, fl, fr, T1, T2, he, N1, N2, S1, S2, D⟩ := hTi.halves (M' := M') (ha.one i (by omega)) hd hl hln hr l1 r1 (fun x hx hne => hM x (hfs i hi x hx).1 hne (hfs i hi x hx).2) hL hR
    obtain ⟨k1, v1, c1⟩ := hP
    have np : P'.ks.length = P.ks.length + 1 := by rw [k1]; exact insAt_len _ _ _
    have hiv : i ≤ P.vs.length := by rw [t.vs]; exact hi
    have hpr : p ≠ rp := fun e => by have := t.at_; rw [e, hr] at this; cases this
    -- the kids of the new page
    let c' : Nat → List En := fun j => if j < i then c j else if j = i then el else if j = i + 1 then er else c (j - 1)
    let f' : Nat → List Nat := fun j => if j < i then f j else if j = i then fl else if j = i + 1 then fr else f (j - 1)
    have kid : ∀ j, j ≤ P.ks.length + 1 → (j < i ∧ c' j = c j ∧ f' j = f j ∧ P'.kids.getD j 0 = P.kids.getD j 0) ∨ (j = i ∧ c' j = el ∧ f' j = fl ∧ P'.kids.getD j 0 = lp) ∨ (j = i + 1 ∧ c' j = er ∧ f' j = fr ∧ P'.kids.getD j 0 = rp) ∨
        (i + 1 < j ∧ c' j = c (j - 1) ∧ f' j = f (j - 1) ∧ P'.kids.getD j 0 = P.kids.getD (j - 1) 0) := fun j hj => by
      have hik : i + 1 ≤ P.kids.length := by omega
      rcases Nat.lt_trichotomy j i with h | h | h
      · exact .inl ⟨h, if_pos h, if_pos h, by rw [c1]; exact insAt_lo (by omega) hik⟩
      · exact .inr (.inl ⟨h, by simp only [c']; rw [if_neg (by omega), if_pos h], by simp only [f']; rw [if_neg (by omega), if_pos h], by rw [c1, insAt_lo (by omega) hik, h, hki]⟩)
      · by_cases h2 : j = i + 1
        · exact .inr (.inr (.inl ⟨h2, by simp only [c']; rw [if_neg (by omega), if_neg (by omega), if_pos h2], by simp only [f']; rw [if_neg (by omega), if_neg (by omega), if_pos h2], by rw [c1, h2]; exact insAt_at hik⟩))
        · refine .inr (.inr (.inr ⟨by omega, by simp only [c']; rw [if_neg (by omega), if_neg (by omega), if_neg h2], by simp only [f']; rw [if_neg (by omega), if_neg (by omega), if_neg h2], ?_⟩))
          have := insAt_hi (l := P.kids) (i := i + 1) (j := j - 1) (x := rp) (z := 0) (by omega) hik
          rw [show j - 1 + 1 = j by omega] at this
          rw [c1]; exact this
    have far : ∀ j k, j ≤ P.ks.length → k ≤ P.ks.length → j ≠ k → ∀ x ∈ f j, x ∉ f k := fun j k hj hk => ha.two j k (by omega) (by omega)
    have frame : ∀ j, j ≤ P.ks.length → j ≠ i → Tr d M' h' (d - 1) (P.kids.getD j 0) (c j) (f j) := fun j hj hne => Tr.frame (hT j hj) (fun x hx => hM x (hfs j hj x hx).1 (fun e => far j i hj hi hne x hx (by rw [e]; exact hlm)) (hfs j hj x hx).2)
    refine ⟨c', f', _, ⟨p1, by rw [np, v1, insAt_len, t.vs], by omega, by omega, ?_, rfl, .inr ⟨h', rfl, by rw [np, c1, insAt_len, hk], fun j hj => ?_⟩⟩, ?_, ?_⟩
    · have e1 : flat c' P' i = flat c P i := flat_congr fun j hj => ⟨by unfold ent; rw [k1, v1, insAt_lo hj hi, insAt_lo hj hiv], if_pos hj⟩
      have e2 : seg c' P' (i + 1) (P.ks.length + 1) = seg c P i P.ks.length := seg_congr fun j hj hj2 => ⟨by unfold ent; rw [k1, v1, insAt_hi hj hi, insAt_hi hj hiv], by
        rcases kid (j + 1 + 1) (by omega) with h | h | h | h
        · omega
        · omega
        · omega
        · exact h.2.1⟩
      have e3 : c' i = el := by
        rcases kid i (by omega) with h | h | h | h
        · omega
        · exact h.2.1
        · omega
        · omega
      have e4 : c' (i + 1) = er := by
        rcases kid (i + 1) (by omega) with h | h | h | h
        · omega
        · omega
        · exact h.2.1
        · omega
      have e5 : ent P' i = (L.ks.getD (d - 1) k0, L.vs.getD (d - 1) 0) := by unfold ent; rw [k1, v1, insAt_at hi, insAt_at hiv]
      rw [np, parted c' P' (show i ≤ P.ks.length + 1 by omega), seg_cons c' P' (show i < P.ks.length + 1 by omega), e1, e2, e3, e4, e5, t.part hi, he]
      simp [List.append_assoc]
    · rw [np] at hj
      rcases kid j hj with ⟨h, h1, h2, h3⟩ | ⟨h, h1, h2, h3⟩ | ⟨h, h1, h2, h3⟩ | ⟨h, h1, h2, h3⟩ <;> rw [h1, h2, h3]
      · exact frame j (by omega) (by omega)
      · exact T1
      · exact T2
      · exact frame (j - 1) (by omega) (by omega)
    · rw [np]
      -- what a kid's pages are
      have sub : ∀ j, j ≤ P.ks.length + 1 → (f' j).Nodup ∧ p ∉ f' j ∧ ∀ x ∈ f' j, ((j < i ∧ x ∈ f j) ∨ (j = i ∧ x ∈ f i ∧ x ∈ fl) ∨ (j = i + 1 ∧ (x ∈ f i ∨ x = rp) ∧ x ∈ fr) ∨ (i + 1 < j ∧ x ∈ f (j - 1))) := fun j hj => by
        rcases kid j hj with ⟨h, h1, h2, h3⟩ | ⟨h, h1, h2, h3⟩ | ⟨h, h1, h2, h3⟩ | ⟨h, h1, h2, h3⟩ <;> rw [h2]
        · exact ⟨ha.one j (by omega), ha.own j (by omega), fun x hx => .inl ⟨h, hx⟩⟩
        · exact ⟨N1, fun hx => ha.own i (by omega) (S1 _ hx), fun x hx => .inr (.inl ⟨h, S1 x hx, hx⟩)⟩
        · refine ⟨N2, fun hx => ?_, fun x hx => .inr (.inr (.inl ⟨h, S2 x hx, hx⟩))⟩
          rcases S2 _ hx with h' | h'
          · exact ha.own i (by omega) h'
          · exact hpr h'
        · exact ⟨ha.one _ (by omega), ha.own _ (by omega), fun x hx => .inr (.inr (.inr ⟨h, hx⟩))⟩
      refine apart_iff.2 ⟨fun j hj => (sub j (by omega)).2.1, fun j hj => (sub j (by omega)).1, fun j k hj hk hne x hx hy => ?_⟩
      have hr' : ∀ j, j ≤ P.ks.length → rp ∉ f j := fun j hj hx => (hfs j hj rp hx).2 rfl
      rcases (sub j (by omega)).2.2 x hx with ⟨a, ax⟩ | ⟨a, ax, ax2⟩ | ⟨a, ax, ax2⟩ | ⟨a, ax⟩ <;> rcases (sub k (by omega)).2.2 x hy with ⟨b, bx⟩ | ⟨b, bx, bx2⟩ | ⟨b, bx, bx2⟩ | ⟨b, bx⟩
      · exact far j k (by omega) (by omega) hne x ax bx
      · exact far j i (by omega) (by omega) (by omega) x ax bx
      · rcases bx with bx | rfl
        · exact far j i (by omega) (by omega) (by omega) x ax bx
        · exact hr' j (by omega) ax
      · exact far j (k - 1) (by omega) (by omega) (by omega) x ax bx
      · exact far i k (by omega) (by omega) (by omega) x ax bx
      · omega
      · exact D x ax2 bx2
      · exact far i (k - 1) (by omega) (by omega) (by omega) x ax bx
      · rcases ax with ax | rfl
        · exact far i k (by omega) (by omega) (by omega) x ax bx
        · exact hr' k (by omega) bx
      · exact D x bx2 ax2
      · omega
      · rcases ax with ax | rfl
        · exact far i (k - 1) (by omega) (by omega) (by omega) x ax bx
        · exact hr' (k - 1) (by omega) bx
      · exact far (j - 1) k (by omega) (by omega) (by omega) x ax bx
      · exact far (j - 1) i (by omega) (by omega) (by omega) x ax bx
      · rcases bx with bx | rfl
        · exact far (j - 1) i (by omega) (by omega) (by omega) x ax bx
        · exact hr' (j - 1) (by omega) ax
      · exact far (j - 1) (k - 1) (by omega) (by omega) (by omega) x ax bx
    · intro x hx
      rcases mem_fs.1 hx with rfl | ⟨j, hj, hx⟩
      · exact .inl t.tr.root_mem
      · rcases kid j (by omega) with ⟨h, h1, h2, h3⟩ | ⟨h, h1, h2, h3⟩ | ⟨h, h1, h2, h3⟩ | ⟨h, h1, h2, h3⟩ <;> rw [h2] at hx
        · exact .inl (t.mem (i := j) (by omega) hx)
        · exact .inl (t.mem hi (S1 x hx))
        · exact (S2 x hx).imp (fun h => t.mem hi h) id
        · exact .inl (t.mem (i := j - 1) (by omega) hx)
end
end Go.Proofs.Ytmmikolcipcldaa
