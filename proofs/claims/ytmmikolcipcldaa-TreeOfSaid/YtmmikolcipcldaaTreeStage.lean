/-
  What is proved here: what the steps of a split need: rows that are made and cut, fields of a page that are set, the map of three pages. Conditions: each theorem's own.
-/
import Derived.Test.YtmmikolcipcldaaTreeHeap
import Derived.Test.YtmmikolcipcldaaTreePlace
namespace Go.Proofs.Ytmmikolcipcldaa
open Go.RowKit Go.Deep

theorem run_append_empty {P : Program} (w : World) (t ty e : TypeId) (i : TypeInfo) (z : Value) (size bytes : Nat) (ht : P.underlying t = some (.slice e)) (hi : P.info? e = some i) (hz : i.zero = some z)
    (hsize : i.size = size) (hby : i.bytes = bytes) (b a : Addr) (m c1 : Nat) (hm : 0 < m) (news : List Value) (hl : news.length = m * size) (hnews : ∀ j u, news[j]? = some u → w.cell? (a.add j) = some u)
    (h63 : m ≤ maxLen) (hbytes : m * bytes ≤ 140737488355328) :
    (Builtin.append_ #[t, t] ty #[.slice (some b) 0 0, .slice (some a) m c1]).run P w = .ok (.slice (some ⟨w.heap.size, 0, none⟩) m (grownCap w m 0 e)) (w.drew.alloc (.cells (news ++ (Builtin.zeroCells z.cells (grownCap w m 0 e - m)).toList).toArray e)) := by
  subst hsize hby
  have hr := run_append_grow (P := P) w t ty e i z ht hi hz b 0 0 [] (by simp) (fun j u h => by simp at h) a m c1 news hl hnews (by omega) (by simp only [maxLen] at h63; omega) (growslice_fits (by omega) (by simpa using hbytes))
  simp only [Nat.zero_add] at hr
  rw [hr]
  congr 4
  apply Array.toList_inj.1
  simp
theorem row_new {w : World} {g : Nat} {t : TypeId} {size m c : Nat} {news sp : List Value} (hl : news.length = m * size) (hm : m ≤ c) (hs : c * size ≤ (news ++ sp).length) (hb : Blk w g t (news ++ sp).toArray) : RowAt w g t size m c news :=
  ⟨hm, hl, fun _ => ⟨_, hb, by simpa using hs, by rw [← hl]; simp⟩⟩
theorem cap_fits {w : World} {m size : Nat} {e : TypeId} {z : Value} {news : List Value} (hl : news.length = m * size) (hz : z.cells.size = size) : grownCap w m 0 e * size ≤ (news ++ (Builtin.zeroCells z.cells (grownCap w m 0 e - m)).toList).length := by
  have hge := grownCap_ge w m 0 e
  rw [List.length_append, hl, Array.length_toList, size_zeroCells, hz, ← Nat.add_mul]
  exact Nat.le_of_eq (by congr 1; omega)
/-- the cells behind a place. -/
theorem RowAt.from_ {w : World} {g : Nat} {t : TypeId} {size n c : Nat} {xs : List Value} (h : RowAt w g t size n c xs) (hc : 0 < c) (o : Nat) : ∀ j u, (xs.drop o)[j]? = some u → w.cell? ((⟨g, o, none⟩ : Addr).add j) = some u := fun j u hu => by
  rw [List.getElem?_drop] at hu
  rw [Go.WideShapes.add_plain]
  exact h.cell hc hu

/-- the right half, as it is made. -/
structure NewPage (w w' : World) (rp : Nat) (R : Pg) (ks : List Ky) (vs : List Int) (kids : List Nat) : Prop where
  page : PageAt w' rp R
  rp : w.heap.size ≤ rp
  gk : w.heap.size ≤ R.gk
  gv : w.heap.size ≤ R.gv
  gc : 0 < R.cc → w.heap.size ≤ R.gc
  ck : 0 < R.ck
  cv : 0 < R.cv
  ks : R.ks = ks
  vs : R.vs = vs
  kids : R.kids = kids

theorem Blk.at_end (W : World) (t : TypeId) (cs : Array Value) {b : Nat} (h : b = W.heap.size) : Blk (W.alloc (.cells cs t)) b t cs := by
  subst h
  exact Blk.new W t cs
theorem newpage {w W : World} {rp b1 b2 n1 n2 c1 c2 : Nat} {ks : List Ky} {vs : List Int} {sp1 sp2 : List Value} (hr : Blk W rp 82 #[.slice (some ⟨b1, 0, none⟩) n1 c1, .slice (some ⟨b2, 0, none⟩) n2 c2, .slice none 0 0])
    (hk : Blk W b1 24 (kcells ks ++ sp1).toArray) (hv : Blk W b2 3 (vcells vs ++ sp2).toArray) (e1 : n1 = ks.length) (e2 : n2 = vs.length) (m1 : 0 < n1) (m2 : 0 < n2) (l1 : n1 ≤ c1) (l2 : n2 ≤ c2)
    (s1 : c1 * 2 ≤ (kcells ks ++ sp1).length) (s2 : c2 * 1 ≤ (vcells vs ++ sp2).length) (r1 : w.heap.size ≤ rp) (r2 : w.heap.size ≤ b1) (r3 : w.heap.size ≤ b2) : ∃ R, NewPage w W rp R ks vs [] := by
  subst e1 e2
  refine ⟨⟨ks, vs, [], b1, b2, 0, c1, c2, 0⟩, ⟨?_, row_new (kcells_len ks) l1 s1 hk, row_new (by simp [vcells]) l2 s2 hv, ⟨by simp, by simp [pcells], fun h => absurd h (by simp)⟩⟩, r1, r2, r3, fun h => absurd h (by simp), by simp only; omega, by simp only; omega, rfl, rfl, rfl⟩
  simp only [sl, if_neg (show ¬ c1 = 0 by omega), if_neg (show ¬ c2 = 0 by omega), List.length_nil]
  exact hr
theorem closeR {w W : World} {rp : Nat} {ks : List Ky} {vs : List Int} (hb : Below w.heap.size w W) (h : ∃ R, NewPage w W rp R ks vs []) : ∃ rp' R, Value.pointer (some ⟨rp, 0, none⟩) = .pointer (some ⟨rp', 0, none⟩) ∧ Below w.heap.size w W ∧ NewPage w W rp' R ks vs [] := by
  obtain ⟨R, hR⟩ := h
  exact ⟨rp, R, rfl, hb, hR⟩
theorem fitsK {w : World} {m n : Nat} {ks : List Ky} (hl : m = ks.length) (hn : n = grownCap w m 0 24) : n * 2 ≤ (kcells ks ++ (Builtin.zeroCells #[.int .i64 0, .int .i64 0] (grownCap w m 0 24 - m)).toList).length := by
  subst hn
  exact cap_fits (z := .agg #[.int .i64 0, .int .i64 0]) (by rw [kcells_len, hl]) rfl
theorem fitsI {w : World} {m n : Nat} {vs : List Int} (hl : m = vs.length) (hn : n = grownCap w m 0 3) : n * 1 ≤ (vcells vs ++ (Builtin.zeroCells #[.int .i64 0] (grownCap w m 0 3 - m)).toList).length := by
  subst hn
  exact cap_fits (z := .int .i64 0) (by simp [vcells, hl]) rfl

/-- a page of the map has that block. -/
def Own (M : Nat → Option Pg) (k : Nat) : Prop := ∃ q Q, M q = some Q ∧ k ∈ q :: Q.blocks
/-- what a tree's steps leave: all that no page had, but for L; and no page has it now. -/
structure Fr (L : List Nat) (M : Nat → Option Pg) (w : World) (M' : Nat → Option Pg) (W : World) : Prop where
  os : W.os = w.os
  tape : W.tape = w.tape
  output : W.output = w.output
  size : w.heap.size ≤ W.heap.size
  free : ∀ k, k < w.heap.size → k ∉ L → ¬ Own M k → ¬ Own M' k ∧ W.heap[k]? = w.heap[k]?
section
variable {L : List Nat} {M M' M'' : Nat → Option Pg} {w W W' : World} {B : Nat}
theorem Fr.refl (L : List Nat) (M : Nat → Option Pg) (w : World) : Fr L M w M w := ⟨rfl, rfl, rfl, Nat.le_refl _, fun _ _ _ h => ⟨h, rfl⟩⟩
theorem Fr.trans (h : Fr L M w M' W) (k : Fr L M' W M'' W') : Fr L M w M'' W' :=
  ⟨k.os.trans h.os, k.tape.trans h.tape, k.output.trans h.output, Nat.le_trans h.size k.size, fun i hi hL hO =>
    have h1 := h.free i hi hL hO
    have h2 := k.free i (Nat.lt_of_lt_of_le hi h.size) hL h1.1
    ⟨h2.1, h2.2.trans h1.2⟩⟩
theorem Fr.mono {L' : List Nat} (h : Fr L M w M' W) (hs : ∀ x ∈ L, x ∈ L') : Fr L' M w M' W := ⟨h.os, h.tape, h.output, h.size, fun i hi hL hO => h.free i hi (fun h' => hL (hs i h')) hO⟩
theorem Fr.of_below (h : Below w.heap.size w W) : Fr L M w M W := ⟨h.os, h.tape, h.output, h.size, fun k hk _ hO => ⟨hO, h.block k hk⟩⟩
/-- a block of L itself is written. -/
theorem Fr.of_touch (h : Touch w W L) : Fr L M w M W := ⟨h.os, h.tape, h.output, h.size, fun k hk hL hO => ⟨hO, h.block k hk hL⟩⟩
theorem own_upd {q k : Nat} {X : Pg} (h : Own (upd M q X) k) : k ∈ q :: X.blocks ∨ Own M k := by
  obtain ⟨r, R, hr, hk⟩ := h
  by_cases e : r = q
  · subst e
    rw [upd_same] at hr
    cases hr
    exact .inl hk
  · rw [upd_other _ _ e] at hr
    exact .inr ⟨r, R, hr, hk⟩
theorem Fr.turn {q : Nat} {Q X : Pg} (hq : M q = some Q) (k : Touch w W (q :: Q.blocks)) (h1 : Held w Q.gk Q.ck X.gk X.ck) (h2 : Held w Q.gv Q.cv X.gv X.cv) (h3 : Held w Q.gc Q.cc X.gc X.cc) : Fr L M w (upd M q X) W :=
  ⟨k.os, k.tape, k.output, k.size, fun i hi _ hO => ⟨fun ho => by
    rcases own_upd ho with hm | hm
    · rw [List.mem_cons, Pg.mem_blocks] at hm
      rcases hm with rfl | ⟨hc, rfl⟩ | ⟨hc, rfl⟩ | ⟨hc, rfl⟩
      · exact hO ⟨_, _, hq, by simp⟩
      · rcases h1 hc with ⟨h, e⟩ | h
        · exact hO ⟨_, _, hq, List.mem_cons_of_mem _ ((Pg.mem_blocks _ _).2 (.inl ⟨h, e⟩))⟩
        · omega
      · rcases h2 hc with ⟨h, e⟩ | h
        · exact hO ⟨_, _, hq, List.mem_cons_of_mem _ ((Pg.mem_blocks _ _).2 (.inr (.inl ⟨h, e⟩)))⟩
        · omega
      · rcases h3 hc with ⟨h, e⟩ | h
        · exact hO ⟨_, _, hq, List.mem_cons_of_mem _ ((Pg.mem_blocks _ _).2 (.inr (.inr ⟨h, e⟩)))⟩
        · omega
    · exact hO hm, k.block i hi (fun hm => hO ⟨_, _, hq, hm⟩)⟩⟩
theorem Fr.make {p : Nat} {X : Pg} (hb : Below w.heap.size w W) (hp : w.heap.size ≤ p) (h1 : 0 < X.ck → w.heap.size ≤ X.gk) (h2 : 0 < X.cv → w.heap.size ≤ X.gv) (h3 : 0 < X.cc → w.heap.size ≤ X.gc) : Fr L M w (upd M p X) W :=
  ⟨hb.os, hb.tape, hb.output, hb.size, fun i hi _ hO => ⟨fun ho => by
    rcases own_upd ho with hm | hm
    · rw [List.mem_cons, Pg.mem_blocks] at hm
      rcases hm with rfl | ⟨hc, rfl⟩ | ⟨hc, rfl⟩ | ⟨hc, rfl⟩
      · omega
      · have := h1 hc; omega
      · have := h2 hc; omega
      · have := h3 hc; omega
    · exact hO hm, hb.block i hi⟩⟩
theorem TH.free_low (h : TH B w M) {k : Nat} (hk : k < B) : ¬ Own M k := fun ⟨_, _, hq, hm⟩ => by
  have := h.blocks_low hq _ hm
  omega
theorem TH.own_lt (h : TH B w M) {k : Nat} (hk : Own M k) : k < w.heap.size := by
  obtain ⟨q, Q, hq, hx⟩ := hk
  have hP := h.page hq
  rw [List.mem_cons, Pg.mem_blocks] at hx
  rcases hx with rfl | ⟨h1, rfl⟩ | ⟨h1, rfl⟩ | ⟨h1, rfl⟩
  · exact hP.blk.lt
  · exact hP.keys.lt h1
  · exact hP.vals.lt h1
  · exact hP.kids.lt h1
theorem TH.free_type (h : TH B w M) {k : Nat} {cs : Array Value} {t : TypeId} {f : Nat × Nat} (ho : w.heap[k]? = some (.cells cs t f)) (ht : t ∉ [82, 24, 3, 69]) : ¬ Own M k := fun ⟨_, _, hq, hx⟩ => ht (by
  have hP := h.page hq
  rw [List.mem_cons, Pg.mem_blocks] at hx
  rcases hx with rfl | ⟨h1, rfl⟩ | ⟨h1, rfl⟩ | ⟨h1, rfl⟩
  · rw [blk_type ho hP.blk]; decide
  · obtain ⟨cur, e⟩ := hP.keys.obj h1
    rw [blk_type ho e]; decide
  · obtain ⟨cur, e⟩ := hP.vals.obj h1
    rw [blk_type ho e]; decide
  · obtain ⟨cur, e⟩ := hP.kids.obj h1
    rw [blk_type ho e]; decide)
theorem Fr.blk (h : Fr L M w M' W) {k : Nat} {t : TypeId} {cs : Array Value} (hb : Blk w k t cs) (hL : k ∉ L) (hO : ¬ Own M k) : Blk W k t cs := (h.free k hb.lt hL hO).2.trans hb
theorem Fr.row (h : Fr L M w M' W) {g n c size : Nat} {t : TypeId} {xs : List Value} (hr : RowAt w g t size n c xs) (hL : 0 < c → g ∉ L) (hO : 0 < c → ¬ Own M g) : RowAt W g t size n c xs :=
  ⟨hr.1, hr.2.1, fun hc => by obtain ⟨cur, a, b, e⟩ := hr.2.2 hc; exact ⟨cur, (h.free g (hr.lt hc) (hL hc) (hO hc)).2.trans a, b, e⟩⟩
end
/-- three pages of a map. -/
def N3 (M : Nat → Option Pg) (p : Nat) (P : Pg) (lp : Nat) (L : Pg) (rp : Nat) (R : Pg) : Nat → Option Pg := fun q => if q = p then some P else if q = lp then some L else if q = rp then some R else M q
structure St (B : Nat) (w : World) (M : Nat → Option Pg) (p : Nat) (P : Pg) (lp : Nat) (L : Pg) (rp : Nat) (R : Pg) (W : World) : Prop where
  th : TH B W (N3 M p P lp L rp R)
  fr : Fr [] M w (N3 M p P lp L rp R) W
section
variable {B : Nat} {w W W' : World} {M : Nat → Option Pg} {p lp rp : Nat} {P L R X : Pg}
theorem N3.own : N3 M p P lp L rp R p = some P := by simp [N3]
theorem N3.l (h : lp ≠ p) : N3 M p P lp L rp R lp = some L := by simp [N3, h]
theorem N3.r (h1 : rp ≠ p) (h2 : rp ≠ lp) : N3 M p P lp L rp R rp = some R := by simp [N3, h1, h2]
theorem St.size (h : St B w M p P lp L rp R W) (hB : B ≤ w.heap.size) : B ≤ W.heap.size := Nat.le_trans hB h.fr.size
theorem St.on (h : St B w M p P lp L rp R W) (hb : Below W.heap.size W W') : St B w M p P lp L rp R W' := ⟨h.th.on hb, h.fr.trans (Fr.of_below hb)⟩
theorem n3_p : N3 M p X lp L rp R = upd (N3 M p P lp L rp R) p X := by funext q; unfold N3 upd; by_cases e : q = p <;> simp [e]
theorem n3_l (hne : lp ≠ p) : N3 M p P lp X rp R = upd (N3 M p P lp L rp R) lp X := by
  funext q; unfold N3 upd
  by_cases e : q = lp
  · subst e; simp [hne]
  · simp [e]
theorem n3_r (n1 : rp ≠ p) (n2 : rp ≠ lp) : N3 M p P lp L rp X = upd (N3 M p P lp L rp R) rp X := by
  funext q; unfold N3 upd
  by_cases e : q = rp
  · subst e; simp [n1, n2]
  · simp [e]
theorem St.turnP (h : St B w M p P lp L rp R W) (hB : B ≤ w.heap.size) (k : Touch W W' (p :: P.blocks)) (hX : PageAt W' p X) (h1 : Held W P.gk P.ck X.gk X.ck) (h2 : Held W P.gv P.cv X.gv X.cv) (h3 : Held W P.gc P.cc X.gc X.cc) : St B w M p X lp L rp R W' :=
  ⟨by rw [n3_p (P := P)]; exact h.th.turn (h.size hB) N3.own k hX h1 h2 h3, by rw [n3_p (P := P)]; exact h.fr.trans (Fr.turn N3.own k h1 h2 h3)⟩
theorem St.turnL (h : St B w M p P lp L rp R W) (hB : B ≤ w.heap.size) (hne : lp ≠ p) (k : Touch W W' (lp :: L.blocks)) (hX : PageAt W' lp X) (h1 : Held W L.gk L.ck X.gk X.ck) (h2 : Held W L.gv L.cv X.gv X.cv) (h3 : Held W L.gc L.cc X.gc X.cc) : St B w M p P lp X rp R W' :=
  ⟨by rw [n3_l (L := L) hne]; exact h.th.turn (h.size hB) (N3.l hne) k hX h1 h2 h3, by rw [n3_l (L := L) hne]; exact h.fr.trans (Fr.turn (N3.l hne) k h1 h2 h3)⟩
theorem St.turnR (h : St B w M p P lp L rp R W) (hB : B ≤ w.heap.size) (n1 : rp ≠ p) (n2 : rp ≠ lp) (k : Touch W W' (rp :: R.blocks)) (hX : PageAt W' rp X) (h1 : Held W R.gk R.ck X.gk X.ck) (h2 : Held W R.gv R.cv X.gv X.cv) (h3 : Held W R.gc R.cc X.gc X.cc) : St B w M p P lp L rp X W' :=
  ⟨by rw [n3_r (R := R) n1 n2]; exact h.th.turn (h.size hB) (N3.r n1 n2) k hX h1 h2 h3, by rw [n3_r (R := R) n1 n2]; exact h.fr.trans (Fr.turn (N3.r n1 n2) k h1 h2 h3)⟩
theorem St.start (h : TH B w M) (hB : B ≤ w.heap.size) (hp : M p = some P) (hl : M lp = some L) (hb : Below w.heap.size w W) {ks : List Ky} {vs : List Int} (hN : NewPage w W rp R ks vs []) : St B w M p P lp L rp R W ∧ rp ≠ p ∧ rp ≠ lp ∧ M rp = none := by
  have h1 := (h.page hp).blk.lt
  have h2 := (h.page hl).blk.lt
  have h3 := hN.rp
  have hn3 : N3 M p P lp L rp R = upd M rp R := by
    funext q; unfold N3 upd
    by_cases e : q = p
    · subst e; rw [if_pos rfl, if_neg (by omega), hp]
    · rw [if_neg e]
      by_cases e2 : q = lp
      · subst e2; rw [if_pos rfl, if_neg (by omega), hl]
      · rw [if_neg e2]
  refine ⟨⟨?_, by rw [hn3]; exact Fr.make hb hN.rp (fun _ => hN.gk) (fun _ => hN.gv) hN.gc⟩, by omega, by omega, ?_⟩
  · have := h.make hB hb hN.rp hN.page (fun _ => hN.gk) (fun _ => hN.gv) hN.gc
    rw [hn3]
    exact this
  · cases e : M rp with
    | none => rfl
    | some Q => have := (h.page e).blk.lt; omega
end

section
variable {w : World} {p g c : Nat} {P : Pg}
theorem PageAt.far {w : World} {p : Nat} {P : Pg} (h : PageAt w p P) : (0 < P.ck → P.gk ∉ [p]) ∧ (0 < P.cv → P.gv ∉ [p]) ∧ (0 < P.cc → P.gc ∉ [p]) := by
  refine ⟨fun hc hm => ?_, fun hc hm => ?_, fun hc hm => ?_⟩ <;> rw [List.mem_singleton] at hm
  · obtain ⟨cur, ho⟩ := h.keys.obj hc
    rw [hm] at ho
    exact absurd (blk_type h.blk ho) (by decide)
  · obtain ⟨cur, ho⟩ := h.vals.obj hc
    rw [hm] at ho
    exact absurd (blk_type h.blk ho) (by decide)
  · obtain ⟨cur, ho⟩ := h.kids.obj hc
    rw [hm] at ho
    exact absurd (blk_type h.blk ho) (by decide)
theorem row_far {w : World} {p g c n size : Nat} {t : TypeId} {xs : List Value} {cs : Array Value} (h : Blk w p 82 cs) (hr : RowAt w g t size n c xs) (ht : t ≠ 82) : 0 < c → g ∉ [p] := fun hc hm => by
  rw [List.mem_singleton] at hm
  obtain ⟨cur, ho⟩ := hr.obj hc
  rw [hm] at ho
  exact absurd (blk_type h ho) (Ne.symm ht)
theorem PageAt.set0 (h : PageAt w p P) {ks : List Ky} (hr : RowAt w g 24 2 ks.length c (kcells ks)) (hc : 0 < c) : PageAt (w.setCell ⟨p, 0, none⟩ (.slice (some ⟨g, 0, none⟩) ks.length c)) p { P with ks := ks, gk := g, ck := c } := by
  have hT := Touch.set w ⟨p, 0, none⟩ (.slice (some ⟨g, 0, none⟩) ks.length c) [p] (by simp)
  refine ⟨?_, hr.touch hT (row_far h.blk hr (by decide)), h.vals.touch hT h.far.2.1, h.kids.touch hT h.far.2.2⟩
  have := h.blk.set_ 0 (.slice (some ⟨g, 0, none⟩) ks.length c)
  rw [← sl_pos _ _ _ hc] at this ⊢
  exact this
theorem PageAt.set1 (h : PageAt w p P) {vs : List Int} (hr : RowAt w g 3 1 vs.length c (vcells vs)) (hc : 0 < c) : PageAt (w.setCell ⟨p, 1, none⟩ (.slice (some ⟨g, 0, none⟩) vs.length c)) p { P with vs := vs, gv := g, cv := c } := by
  have hT := Touch.set w ⟨p, 1, none⟩ (.slice (some ⟨g, 0, none⟩) vs.length c) [p] (by simp)
  refine ⟨?_, h.keys.touch hT h.far.1, hr.touch hT (row_far h.blk hr (by decide)), h.kids.touch hT h.far.2.2⟩
  have := h.blk.set_ 1 (.slice (some ⟨g, 0, none⟩) vs.length c)
  rw [← sl_pos _ _ _ hc] at this ⊢
  exact this
theorem PageAt.set2 (h : PageAt w p P) {ps : List Nat} (hr : RowAt w g 69 1 ps.length c (pcells ps)) (hc : 0 < c) : PageAt (w.setCell ⟨p, 2, none⟩ (.slice (some ⟨g, 0, none⟩) ps.length c)) p { P with kids := ps, gc := g, cc := c } := by
  have hT := Touch.set w ⟨p, 2, none⟩ (.slice (some ⟨g, 0, none⟩) ps.length c) [p] (by simp)
  refine ⟨?_, h.keys.touch hT h.far.1, h.vals.touch hT h.far.2.1, hr.touch hT (row_far h.blk hr (by decide))⟩
  have := h.blk.set_ 2 (.slice (some ⟨g, 0, none⟩) ps.length c)
  rw [← sl_pos _ _ _ hc] at this ⊢
  exact this
theorem RowAt.cut {w : World} {g : Nat} {t : TypeId} {size n c m : Nat} {xs : List Value} (h : RowAt w g t size n c xs) (hm : m ≤ n) : RowAt w g t size m m (xs.take (m * size)) := by
  refine ⟨Nat.le_refl _, ?_, fun hc => ?_⟩
  · rw [List.length_take, h.2.1]
    exact Nat.min_eq_left (Nat.mul_le_mul_right _ hm)
  · obtain ⟨cur, h1, h2, h3⟩ := h.2.2 (Nat.lt_of_lt_of_le (Nat.lt_of_lt_of_le hc hm) h.1)
    refine ⟨cur, h1, Nat.le_trans (Nat.mul_le_mul_right _ (Nat.le_trans hm h.1)) h2, ?_⟩
    rw [← h3, List.take_take, Nat.min_eq_left (Nat.mul_le_mul_right _ hm)]
end
end Go.Proofs.Ytmmikolcipcldaa
