/-
  What is proved here: nothing of the program: the document's walk over pages, in memory, and what a step of it leaves (chapter 15). Conditions: each theorem's own.
-/
import Derived.Test.YtmmikolcipcldaaTreeSized
import Derived.Test.YtmmikolcipcldaaTreeRef
namespace Go.Proofs.Ytmmikolcipcldaa
open Go.RowKit Go.Deep

/-- what the walk has come to. -/
structure WkS where
  seen : List Bool
  deep : Nat
  out : List En
  right : Bool
/-- in memory: its block b, its flags at sb. -/
structure WkAt (lo : Nat) (W : World) (b sb : Nat) (lv : Value) (S : WkS) : Prop where
  blk : ∃ ov, Blk W b 87 #[lv, .slice (some ⟨sb, 0, none⟩) S.seen.length S.seen.length, ov, .int .i64 S.deep, .bool S.right] ∧ OwnE lo W ov S.out
  row : Blk W sb 4 (S.seen.map Value.bool).toArray
/-- What leaves whatever is no walk, no flag and no entry. -/
structure KeepW (W W' : World) : Prop where
  os : W'.os = W.os
  tape : W'.tape = W.tape
  output : W'.output = W.output
  size : W.heap.size ≤ W'.heap.size
  block : ∀ (k : Nat) (cs : Array Value) (t : TypeId), Blk W k t cs → t ≠ 87 → t ≠ 4 → t ≠ 44 → Blk W' k t cs
theorem KeepW.refl (W : World) : KeepW W W := ⟨rfl, rfl, rfl, Nat.le_refl _, fun _ _ _ h _ _ _ => h⟩
theorem KeepW.trans {A B C : World} (h : KeepW A B) (k : KeepW B C) : KeepW A C :=
  ⟨k.os.trans h.os, k.tape.trans h.tape, k.output.trans h.output, Nat.le_trans h.size k.size, fun i cs t hb h1 h2 h3 => k.block i cs t (h.block i cs t hb h1 h2 h3) h1 h2 h3⟩
section
variable {W W' : World} {lo b sb : Nat} {lv : Value} {S : WkS} {w0 : World} {nds : List NdR}
theorem Below.keepW (h : Below W.heap.size W W') : KeepW W W' := ⟨h.os, h.tape, h.output, h.size, fun _ _ _ hb _ _ _ => hb.below h hb.lt⟩
theorem KeepW.drewN (h : KeepW W W') (n : Nat) : KeepW W (W'.drewN n) := h.trans (Below.keepW (below_drewN (Below.refl _ _) n))
theorem KeepW.set {t : TypeId} {g o : Nat} {cs : Array Value} {u : Value} (hb : Blk W g t cs) (ht : t = 87 ∨ t = 4 ∨ t = 44) : KeepW W (W.setCell ⟨g, o, none⟩ u) :=
  ⟨rfl, rfl, rfl, by simp [World.setCell], fun k cs' t' hb' h1 h2 h3 => (Below.heap_setCell W ⟨g, o, none⟩ u k (fun e => by
    have e : k = g := e
    rw [e] at hb'
    have := blk_type hb' hb
    rcases ht with h | h | h
    · exact h1 (this.trans h)
    · exact h2 (this.trans h)
    · exact h3 (this.trans h))).trans hb'⟩
theorem WkAt.on (h : WkAt lo W b sb lv S) (hb : Below W.heap.size W W') : WkAt lo W' b sb lv S := by
  obtain ⟨ov, h1, h2⟩ := h.blk
  exact ⟨⟨ov, h1.below hb h1.lt, h2.on hb⟩, h.row.below hb h.row.lt⟩
theorem WkAt.ne (h : WkAt lo W b sb lv S) : b ≠ sb := fun e => by
  obtain ⟨ov, h1, _⟩ := h.blk
  rw [e] at h1
  exact absurd (blk_type h1 h.row) (by decide)
/-- entries of the call's own, where another block is stored into. -/
theorem OwnE.other {es : List En} {v : Value} {g o : Nat} {t : TypeId} {cs : Array Value} {u : Value} (h : OwnE lo W v es) (hb : Blk W g t cs) (ht : t ≠ 44) : OwnE lo (W.setCell ⟨g, o, none⟩ u) v es := by
  refine World.ownsRow.kept (row := some g) h ⟨rfl, rfl, rfl, by simp [World.setCell], fun k _ hne => Below.heap_setCell W _ u k (fun e => hne (by rw [e]))⟩ ?_
  rcases h.2 with ⟨rfl, _⟩ | ⟨g', cap, cur, rfl, _, hg, _⟩
  · exact .inl rfl
  · refine .inr (fun e => ?_)
    obtain rfl : g' = g := by simpa [Value.ownBlock] using e
    exact ht (blk_type hb hg)
theorem WkAt.setRight (h : WkAt lo W b sb lv S) (q : Bool) : WkAt lo (W.setCell ⟨b, 4, none⟩ (.bool q)) b sb lv { S with right := q } ∧ KeepW W (W.setCell ⟨b, 4, none⟩ (.bool q)) := by
  obtain ⟨ov, h1, h2⟩ := h.blk
  exact ⟨⟨⟨ov, h1.set_ 4 _, h2.other h1 (by decide)⟩, (Below.heap_setCell W _ _ sb (fun e => h.ne (by rw [show sb = b from e]))).trans h.row⟩, KeepW.set h1 (.inl rfl)⟩
theorem WkAt.setDeep (h : WkAt lo W b sb lv S) (n : Nat) : WkAt lo (W.setCell ⟨b, 3, none⟩ (.int .i64 n)) b sb lv { S with deep := n } ∧ KeepW W (W.setCell ⟨b, 3, none⟩ (.int .i64 n)) := by
  obtain ⟨ov, h1, h2⟩ := h.blk
  exact ⟨⟨⟨ov, h1.set_ 3 _, h2.other h1 (by decide)⟩, (Below.heap_setCell W _ _ sb (fun e => h.ne (by rw [show sb = b from e]))).trans h.row⟩, KeepW.set h1 (.inl rfl)⟩
theorem WkAt.setSeen (h : WkAt lo W b sb lv S) (a : Nat) : WkAt lo (W.setCell ⟨sb, a, none⟩ (.bool true)) b sb lv { S with seen := S.seen.set a true } ∧ KeepW W (W.setCell ⟨sb, a, none⟩ (.bool true)) := by
  obtain ⟨ov, h1, h2⟩ := h.blk
  refine ⟨⟨⟨ov, ?_, h2.other h.row (by decide)⟩, ?_⟩, KeepW.set h.row (.inr (.inl rfl))⟩
  · simp only [List.length_set]
    exact (Below.heap_setCell W _ _ b (fun e => h.ne e)).trans h1
  · have := h.row.set_ a (.bool true)
    rw [show ((S.seen.set a true).map Value.bool).toArray = ((S.seen.map Value.bool).toArray).setIfInBounds a (.bool true) by simp [List.map_set]]
    exact this
theorem WkAt.flag {a : Nat} (h : WkAt lo W b sb lv S) (ha : a < S.seen.length) : W.cell? ⟨sb, a, none⟩ = some (.bool (S.seen.getD a true)) := by
  rw [h.row.cell a]
  simp only [List.getElem?_toArray, List.getElem?_map]
  rw [List.getElem?_eq_getElem ha, List.getD_eq_getElem?_getD, List.getElem?_eq_getElem ha]
  rfl
/-- what a call of the walk finds. -/
structure WkIn (w0 : World) (b sb : Nat) (lv : Value) (nds : List NdR) (S : WkS) (W : World) : Prop where
  wk : WkAt w0.heap.size W b sb lv S
  low : Below w0.heap.size w0 W
  b1 : w0.heap.size ≤ b
  b2 : w0.heap.size ≤ sb
  seen : S.seen.length = nds.length
theorem WkIn.on (h : WkIn w0 b sb lv nds S W) (hb : Below W.heap.size W W') : WkIn w0 b sb lv nds S W' := ⟨h.wk.on hb, h.low.trans (hb.mono h.low.size), h.b1, h.b2, h.seen⟩
/-- what it leaves. -/
def WkOut (w0 : World) (b sb : Nat) (lv : Value) (nds : List NdR) (S : WkS) (res : Option Vs) (W : World) (e : Ending) (W' : World) : Prop :=
  e = .returned (.tuple #[]) ∧ KeepW W W' ∧ ∃ S', WkIn w0 b sb lv nds S' W' ∧ ((∃ r, res = some r ∧ S' = ⟨r.seen, r.leaves, S.out ++ r.es, true⟩) ∨ (res = none ∧ S'.right = false))

/-- what goes through a page's kids, a leaf's too. -/
def wkG (nds : List NdR) (d f deep : Nat) (leaf : Bool) : Int → List Bool → Nat → Option Vs := fun k s lv => if leaf then some ⟨s, lv, []⟩ else vis nds d f k (deep + 1) s lv
theorem wkG_leaf {d f deep : Nat} {n : NdR} {s : List Bool} {lv : Nat} : ∀ (m i : Nat), i + m = n.ks.length + 1 → visL n (wkG nds d f deep true) m i ⟨s, lv, n.ents (min i n.ks.length)⟩ = some ⟨s, lv, n.ents n.ks.length⟩
  | 0, i, h => by
    rw [show min i n.ks.length = n.ks.length by omega]
    rfl
  | m + 1, i, h => by
    have ih := wkG_leaf (n := n) (d := d) (f := f) (deep := deep) (s := s) (lv := lv) m (i + 1) (by omega)
    show visL n (wkG nds d f deep true) m (i + 1) ⟨s, lv, n.ents (min i n.ks.length) ++ ([] ++ (if i < n.ks.length then [n.ent i] else []))⟩ = _
    have e : n.ents (min i n.ks.length) ++ ([] ++ (if i < n.ks.length then [n.ent i] else [])) = n.ents (min (i + 1) n.ks.length) := by
      by_cases hi : i < n.ks.length
      · rw [if_pos hi, show min i n.ks.length = i by omega, show min (i + 1) n.ks.length = i + 1 by omega, NdR.ents_succ]; rfl
      · rw [if_neg hi, show min i n.ks.length = n.ks.length by omega, show min (i + 1) n.ks.length = n.ks.length by omega]; simp
    rw [e]
    exact ih
/-- what a page is gone through to, where it may stand: its kids, one by one. -/
theorem vis_kids {d f a deep leaves : Nat} {seen : List Bool} {n : NdR} (hn : n = nds.getD a n0) (hal : a < nds.length) (hs : seen.getD a true = false) (hok : okNd d (decide ((a : Int) = 0)) n = true) :
    vis nds d (f + 1) (a : Int) deep seen leaves = if n.kids.length = 0 ∧ ¬ (leaves = 0 ∨ leaves = deep) then none else visL n (wkG nds d f deep (decide (n.kids.length = 0))) (n.ks.length + 1) 0 ⟨seen.set a true, if n.kids.length = 0 then deep else leaves, []⟩ := by
  rw [vis]
  simp only [Int.toNat_natCast, ← hn]
  rw [if_neg (by omega), if_neg (by rw [hs]; simp), if_pos hok]
  by_cases hk : n.kids.length = 0
  · rw [if_pos hk]
    by_cases hl : leaves = 0 ∨ leaves = deep
    · rw [if_pos hl, if_neg (fun h => h.2 hl), if_pos hk, decide_eq_true hk]
      have := wkG_leaf (nds := nds) (d := d) (f := f) (deep := deep) (n := n) (s := seen.set a true) (lv := deep) (n.ks.length + 1) 0 (by omega)
      rw [show min 0 n.ks.length = 0 by omega] at this
      exact this.symm
    · rw [if_neg hl, if_pos ⟨hk, hl⟩]
  · rw [if_neg hk, if_neg (fun h => hk h.1), if_neg hk, decide_eq_false hk]
    congr 1
theorem vis_out {d f deep leaves : Nat} {at_ : Int} {seen : List Bool} (h : at_ < 0 ∨ (nds.length : Int) ≤ at_) : vis nds d (f + 1) at_ deep seen leaves = none := by
  rw [vis, if_pos h]
theorem vis_twice {d f a deep leaves : Nat} {seen : List Bool} (hs : seen.getD a true = true) : vis nds d (f + 1) (a : Int) deep seen leaves = none := by
  rw [vis]
  split
  · rfl
  · rw [Int.toNat_natCast, if_pos hs]
theorem vis_wrong {d f a deep leaves : Nat} {seen : List Bool} (hok : okNd d (decide ((a : Int) = 0)) (nds.getD a n0) = false) : vis nds d (f + 1) (a : Int) deep seen leaves = none := by
  rw [vis]
  split
  · rfl
  · split
    · rfl
    · rw [Int.toNat_natCast, if_neg (by rw [hok]; simp)]
/-- a page among those that are given. -/
theorem NdsAt.see {A : Option Addr} {c : Nat} (h : NdsAt w0 (.slice A nds.length c) nds) {a : Nat} (ha : a < nds.length) : ∃ g o K q1 V q2 C q3, A = some ⟨g, o, none⟩ ∧ nds.length ≤ c ∧ ∀ X, Below w0.heap.size w0 X →
    (X.cell? ⟨g, o + a * 3, none⟩ = some (.slice K (nds.getD a n0).ks.length q1) ∧ X.cell? ⟨g, o + a * 3 + 1, none⟩ = some (.slice V (nds.getD a n0).vs.length q2) ∧ X.cell? ⟨g, o + a * 3 + 2, none⟩ = some (.slice C (nds.getD a n0).kids.length q3)) ∧
    NdAt X (.slice K (nds.getD a n0).ks.length q1) (.slice V (nds.getD a n0).vs.length q2) (.slice C (nds.getD a n0).kids.length q3) (nds.getD a n0) := by
  obtain ⟨A', c', heq, hc, hh⟩ := h
  cases heq
  obtain ⟨g, o, rfl, hg, hcl⟩ := hh (by omega)
  obtain ⟨kv, vv, cv, h1, h2, h3, hn⟩ := hcl a ha
  obtain ⟨K, q1, rfl, _⟩ := id hn.ks
  obtain ⟨V, q2, rfl, _⟩ := id hn.vs
  obtain ⟨C, q3, rfl, _⟩ := id hn.kids
  refine ⟨g, o, K, q1, V, q2, C, q3, rfl, hc, fun X hX => ⟨?_, hn.on hX (Nat.le_refl _)⟩⟩
  have e := fun j => hX.cell (p := ⟨g, j, none⟩) hg
  exact ⟨by rw [e]; exact h1, by rw [e]; exact h2, by rw [e]; exact h3⟩
theorem app_own2 {base : Nat} {v : Value} {es : List En} (h : OwnE base W v es) (hB : base ≤ W.heap.size) (hl : es.length ≤ 1000000) (x : En) :
    ∃ v' w', (Builtin.append_ #[31, 31] 31 #[v, .slice (some ⟨W.heap.size, 0, none⟩) 1 1]).run Try.prog (W.alloc (.cells #[.int .i64 x.1.t, .int .i64 x.1.s, .int .i64 x.2] 44)) = .ok v' w' ∧
      OwnE base w' v' (es ++ [x]) ∧ (W.alloc (.cells #[.int .i64 x.1.t, .int .i64 x.1.s, .int .i64 x.2] 44)).grownBy w' v.ownBlock := by
  obtain ⟨i0, hi0, hz0, hz1, hz2⟩ := info_parts infoEn
  have ho := h.on ((Below.refl W.heap.size W).alloc (Nat.le_refl _) (.cells #[.int .i64 x.1.t, .int .i64 x.1.s, .int .i64 x.2] 44))
  have hb := Blk.new W 44 #[.int .i64 x.1.t, .int .i64 x.1.s, .int .i64 x.2]
  obtain ⟨v', w', h1, h2, h3, _⟩ := run_append_own (P := Try.prog) (W.alloc (.cells #[.int .i64 x.1.t, .int .i64 x.1.s, .int .i64 x.2] 44)) base 31 31 44 i0 _ 3 24 Try.underlying31 hi0 hz0 hz1 hz2 rfl (by omega) v es.length (ecells es) ho
    ⟨W.heap.size, 0, none⟩ 1 1 [.int .i64 x.1.t, .int .i64 x.1.s, .int .i64 x.2] rfl (World.news_of_block hb) (by simp [Value.oneCell']) (by unfold maxLen; omega) (by omega) (by simp; omega)
  refine ⟨v', w', h1, ?_, h3⟩
  have : ecells (es ++ [x]) = ecells es ++ [.int .i64 x.1.t, .int .i64 x.1.s, .int .i64 x.2] := by rw [ecells_app]; rfl
  unfold OwnE
  rw [this, List.length_append]
  exact h2
/-- an entry was appended, the walk's list stored. -/
theorem WkIn.appended {ov v' : Value} {x : En} {w' : World} (h : WkIn w0 b sb lv nds S W) (hb : Blk W b 87 #[lv, .slice (some ⟨sb, 0, none⟩) S.seen.length S.seen.length, ov, .int .i64 S.deep, .bool S.right]) (ho : OwnE w0.heap.size W ov S.out) (hg : (W.alloc (.cells #[.int .i64 x.1.t, .int .i64 x.1.s, .int .i64 x.2] 44)).grownBy w' ov.ownBlock) (h' : OwnE w0.heap.size w' v' (S.out ++ [x])) :
    Blk w' b 87 #[lv, .slice (some ⟨sb, 0, none⟩) S.seen.length S.seen.length, ov, .int .i64 S.deep, .bool S.right] ∧ WkIn w0 b sb lv nds { S with out := S.out ++ [x] } (w'.setCell ⟨b, 2, none⟩ v') ∧ KeepW W (w'.setCell ⟨b, 2, none⟩ v') := by
  have hba : Below W.heap.size W (W.alloc (.cells #[.int .i64 x.1.t, .int .i64 x.1.s, .int .i64 x.2] 44)) := (Below.refl _ _).alloc (Nat.le_refl _) _
  have hlo := h.low.size
  have hlow : Below w0.heap.size w0 w' := (h.low.alloc hlo _).grown hg (by simp; omega) (fun q hq => (World.ownsRow.lt ho q hq).1)
  have key : ∀ (k : Nat) (cs : Array Value) (t : TypeId), Blk W k t cs → t ≠ 44 → Blk w' k t cs := fun k cs t hk ht => by
    have hk1 := hk.below hba hk.lt
    refine (hg.block k hk1.lt (fun e => ?_)).trans hk1
    rcases ho.2 with ⟨rfl, _⟩ | ⟨g', cap, cur, rfl, _, hgb, _⟩
    · cases e
    · obtain rfl : k = g' := by simpa [Value.ownBlock] using e
      exact ht (blk_type hk hgb)
  have hb' := key b _ _ hb (by decide)
  have hr' := key sb _ _ h.wk.row (by decide)
  have k1 : KeepW W w' := ⟨hg.os, hg.tape, hg.output, Nat.le_trans hba.size hg.size, fun k cs t hk _ _ h3 => key k cs t hk h3⟩
  exact ⟨hb', ⟨⟨⟨v', hb'.set_ 2 _, h'.other hb' (by decide)⟩, (Below.heap_setCell w' _ _ sb (fun e => h.wk.ne (by rw [show sb = b from e]))).trans hr'⟩, hlow.setCell h.b1 _, h.b1, h.b2, h.seen⟩, k1.trans (KeepW.set hb' (.inl rfl))⟩
/-- what the walk's loop over a page's kids has come to. -/
structure WkL (w0 W : World) (b sb : Nat) (lv : Value) (nds : List NdR) (S0 : WkS) (sn : List Bool) (n : NdR) (nb : Nat) (nv : Array Value) (G : Int → List Bool → Nat → Option Vs) (full : Option Vs) (x : Nat) (S : WkS) (X : World) : Prop where
  wk : WkIn w0 b sb lv nds S X
  keep : KeepW W X
  nbk : Blk X nb 60 nv
  st : (S.right = true ∧ ∃ acc : Vs, S = ⟨acc.seen, acc.leaves, S0.out ++ acc.es, true⟩ ∧ full = visL n G (n.ks.length + 1 - x) x acc ∧ unseen acc.seen ≤ unseen sn ∧ acc.es.length + 31 * unseen acc.seen ≤ 31 * unseen sn + x) ∨ (S.right = false ∧ full = none)
/-- behind a kid, ahead of its key. -/
structure WkM (w0 W : World) (b sb : Nat) (lv : Value) (nds : List NdR) (S0 : WkS) (sn : List Bool) (n : NdR) (nb : Nat) (nv : Array Value) (G : Int → List Bool → Nat → Option Vs) (full : Option Vs) (x : Nat) (S : WkS) (X : World) : Prop where
  wk : WkIn w0 b sb lv nds S X
  keep : KeepW W X
  nbk : Blk X nb 60 nv
  st : (S.right = true ∧ ∃ acc : Vs, S = ⟨acc.seen, acc.leaves, S0.out ++ acc.es, true⟩ ∧ full = visL n G (n.ks.length + 1 - (x + 1)) (x + 1) ⟨acc.seen, acc.leaves, acc.es ++ (if x < n.ks.length then [n.ent x] else [])⟩ ∧ unseen acc.seen ≤ unseen sn ∧ acc.es.length + 31 * unseen acc.seen ≤ 31 * unseen sn + x) ∨ (S.right = false ∧ full = none)
section
variable {W X X' : World} {S0 : WkS} {sn : List Bool} {n : NdR} {nb x : Nat} {nv : Array Value} {G : Int → List Bool → Nat → Option Vs} {full : Option Vs}
theorem visL_one {m i : Nat} {s : Vs} (hm : 0 < m) : visL n G m i s = match G (n.kids.getD i 0) s.seen s.leaves with
    | none => none
    | some r => visL n G (m - 1) (i + 1) ⟨r.seen, r.leaves, s.es ++ (r.es ++ (if i < n.ks.length then [n.ent i] else []))⟩ := by
  obtain ⟨k, rfl⟩ : ∃ k, m = k + 1 := ⟨m - 1, by omega⟩
  rfl
/-- a leaf has no kid to go through. -/
theorem WkL.leaf {d f deep : Nat} (h : WkL w0 W b sb lv nds S0 sn n nb nv (wkG nds d f deep true) full x S X) (hx : x ≤ n.ks.length) : WkM w0 W b sb lv nds S0 sn n nb nv (wkG nds d f deep true) full x S X := by
  refine ⟨h.wk, h.keep, h.nbk, ?_⟩
  rcases h.st with ⟨h1, acc, h2, h3, h4, h5⟩ | h
  · refine .inl ⟨h1, acc, h2, ?_, h4, h5⟩
    rw [h3, visL_one (by omega)]
    simp only [wkG, if_true, List.nil_append]
    congr 1
  · exact .inr h
/-- a kid was gone through. -/
theorem WkL.kid {d f deep : Nat} {e : Ending} (hd : d ≤ 16) (h : WkL w0 W b sb lv nds S0 sn n nb nv (wkG nds d f deep false) full x S X) (hx : x ≤ n.ks.length) (hr : S.right = true) (hb : Below X.heap.size X X') {Y : World} (ho : WkOut w0 b sb lv nds S (vis nds d f (n.kids.getD x 0) (deep + 1) S.seen S.deep) X' e Y) : ∃ S', WkM w0 W b sb lv nds S0 sn n nb nv (wkG nds d f deep false) full x S' Y := by
  obtain ⟨_, hk, S', hin, hst⟩ := ho
  refine ⟨S', hin, (h.keep.trans (Below.keepW hb)).trans hk, hk.block _ _ _ (h.nbk.below hb h.nbk.lt) (by decide) (by decide) (by decide), ?_⟩
  rcases h.st with ⟨h1, acc, h2, h3, h4, h5⟩ | ⟨h1, _⟩
  · subst h2
    have hG : wkG nds d f deep false (n.kids.getD x 0) acc.seen acc.leaves = vis nds d f (n.kids.getD x 0) (deep + 1) acc.seen acc.leaves := by simp [wkG]
    rw [visL_one (by omega), hG] at h3
    rcases hst with ⟨r, hr1, rfl⟩ | ⟨hn, hs⟩
    · have hr1' : vis nds d f (n.kids.getD x 0) (deep + 1) acc.seen acc.leaves = some r := hr1
      rw [hr1'] at h3
      have l1 := vis_len hd _ _ _ _ _ _ hr1' h.wk.seen
      have l2 := (vis_seen _ _ _ _ _ _ hr1' h.wk.seen).2
      refine .inl ⟨rfl, ⟨r.seen, r.leaves, acc.es ++ r.es⟩, by rw [← List.append_assoc], ?_, by simp only; omega, by simp only [List.length_append]; omega⟩
      rw [h3]
      simp only []
      rw [List.append_assoc, show n.ks.length + 1 - (x + 1) = n.ks.length + 1 - x - 1 by omega]
    · have hn' : vis nds d f (n.kids.getD x 0) (deep + 1) acc.seen acc.leaves = none := hn
      rw [hn'] at h3
      exact .inr ⟨hs, h3⟩
  · rw [hr] at h1
    cases h1
/-- behind the last kid. -/
theorem WkM.last (h : WkM w0 W b sb lv nds S0 sn n nb nv G full x S X) (hx : ¬ x < n.ks.length) : WkL w0 W b sb lv nds S0 sn n nb nv G full (x + 1) S X := by
  refine ⟨h.wk, h.keep, h.nbk, ?_⟩
  rcases h.st with ⟨h1, acc, h2, h3, h4, h5⟩ | h
  · rw [if_neg hx, List.append_nil] at h3
    exact .inl ⟨h1, acc, h2, h3, h4, by omega⟩
  · exact .inr h
theorem WkM.wrong (h : WkM w0 W b sb lv nds S0 sn n nb nv G full x S X) (hr : S.right = false) : WkL w0 W b sb lv nds S0 sn n nb nv G full (x + 1) S X := by
  refine ⟨h.wk, h.keep, h.nbk, ?_⟩
  rcases h.st with ⟨h1, _⟩ | h
  · rw [hr] at h1; cases h1
  · exact .inr h
/-- its key was taken. -/
theorem WkM.take (h : WkM w0 W b sb lv nds S0 sn n nb nv G full x S X) (hx : x < n.ks.length) (hr : S.right = true) (hb : Below X.heap.size X X') {Y : World} (hk : KeepW X' Y) (hw : WkIn w0 b sb lv nds { S with out := S.out ++ [n.ent x] } Y) : WkL w0 W b sb lv nds S0 sn n nb nv G full (x + 1) { S with out := S.out ++ [n.ent x] } Y := by
  refine ⟨hw, (h.keep.trans (Below.keepW hb)).trans hk, hk.block _ _ _ (h.nbk.below hb h.nbk.lt) (by decide) (by decide) (by decide), ?_⟩
  rcases h.st with ⟨h1, acc, rfl, h3, h4, h5⟩ | ⟨h1, _⟩
  · rw [if_pos hx] at h3
    exact .inl ⟨h1, _, by simp only [List.append_assoc], h3, h4, by simp only [List.length_append, List.length_singleton]; omega⟩
  · rw [hr] at h1; cases h1
theorem WkL.size {m : Nat} (h : WkL w0 W b sb lv nds S0 sn n nb nv G full x S X) (hr : S.right = true) (hx : x ≤ 31) (hm : S0.out.length + 31 * (unseen sn + 1) ≤ m) : unseen S.seen ≤ unseen sn ∧ S.out.length + 31 * unseen S.seen ≤ m := by
  rcases h.st with ⟨h1, acc, rfl, _, h4, h5⟩ | ⟨h1, _⟩
  · refine ⟨h4, ?_⟩
    simp only [List.length_append]
    omega
  · rw [hr] at h1; cases h1
theorem WkM.size {m : Nat} (h : WkM w0 W b sb lv nds S0 sn n nb nv G full x S X) (hr : S.right = true) (hx : x ≤ 31) (hm : S0.out.length + 31 * (unseen sn + 1) ≤ m) : S.out.length ≤ m := by
  rcases h.st with ⟨h1, acc, rfl, _, h4, h5⟩ | ⟨h1, _⟩
  · simp only [List.length_append]
    omega
  · rw [hr] at h1; cases h1
theorem WkL.done (h : WkL w0 W b sb lv nds S0 sn n nb nv G full x S X) (hx : S.right = false ∨ x = n.ks.length + 1) : WkOut w0 b sb lv nds S0 full W (.returned (.tuple #[])) X := by
  refine ⟨rfl, h.keep, S, h.wk, ?_⟩
  rcases h.st with ⟨h1, acc, h2, h3, _, _⟩ | ⟨h1, h2⟩
  · rcases hx with hx | hx
    · rw [h1] at hx; cases hx
    · subst hx
      rw [Nat.sub_self] at h3
      exact .inl ⟨acc, h3, h2⟩
  · exact .inr ⟨h2, h1⟩
end
end
end Go.Proofs.Ytmmikolcipcldaa
