/-
  What is proved here: pages by number are written over: nothing but their lists is (chapter 15). Conditions: each theorem's own.
-/
import Derived.Test.YtmmikolcipcldaaTreeOwnN
import Derived.Test.YtmmikolcipcldaaKitInts
import Derived.Test.YtmmikolcipcldaaTreeSmall
namespace Go.Proofs.Ytmmikolcipcldaa
open Go.RowKit Go.Deep Go.Joins Go.WideShapes

/-- a list of numbers, or of keys, that may be written over. -/
def SpV (lo hi : Nat) (E : TypeId) (size : Nat) (W : World) (v : Value) : Prop :=
  v = .slice none 0 0 ∨ ∃ g n cap, v = .slice (some ⟨g, 0, none⟩) n cap ∧ lo ≤ g ∧ g < hi ∧ n ≤ cap ∧ cap ≤ maxLen ∧ IRow .i64 E W g (cap * size) []
section
variable {lo hi size size' g m : Nat} {E E' : TypeId} {W W' W'' : World} {u v : Value}
theorem SpV.kept (h : SpV lo hi E' size' W u) (hr : IRow .i64 E W g m []) (hr' : IRow .i64 E W' g m []) (hg : W.grownBy W' (some g)) : SpV lo hi E' size' W' u := by
  rcases h with h | ⟨g', n, cap, e, h1, h2, h3, h4, h5⟩
  · exact .inl h
  · refine .inr ⟨g', n, cap, e, h1, h2, h3, h4, ?_⟩
    by_cases hgg : g' = g
    · subst hgg
      obtain ⟨cs, hb, hs, _⟩ := hr
      obtain ⟨cs', hb', hs', _⟩ := h5
      have e1 := hb.symm.trans hb'
      injection e1 with e1
      injection e1 with e1 e2
      subst e1 e2
      rw [← hs', hs]
      exact hr'
    · exact h5.of_block (hg.block g' h5.lt (fun e => hgg (by cases e; rfl)))
theorem SpV.on (h : SpV lo hi E size W u) (hb : Below W.heap.size W W') : SpV lo hi E size W' u := by
  rcases h with h | ⟨g', n, cap, e, h1, h2, h3, h4, h5⟩
  · exact .inl h
  · exact .inr ⟨g', n, cap, e, h1, h2, h3, h4, h5.below hb h5.lt⟩
/-- what writing over leaves. -/
structure Spl (lo hi : Nat) (W W' : World) : Prop where
  touch : Touch W W' (List.range' lo (hi - lo))
  other : ∀ (k : Nat) (cs : Array Value) (t : TypeId), Blk W k t cs → t ≠ 24 → t ≠ 3 → Blk W' k t cs
  keep : ∀ (E : TypeId) (size : Nat) (u : Value), SpV lo hi E size W u → SpV lo hi E size W' u
theorem Spl.refl (lo hi : Nat) (W : World) : Spl lo hi W W := ⟨Touch.refl _ _, fun _ _ _ h _ _ => h, fun _ _ _ h => h⟩
theorem Spl.trans (h : Spl lo hi W W') (k : Spl lo hi W' W'') : Spl lo hi W W'' :=
  ⟨h.touch.trans k.touch, fun i cs t hb h1 h2 => k.other i cs t (h.other i cs t hb h1 h2) h1 h2, fun E s u hu => k.keep E s u (h.keep E s u hu)⟩
theorem Spl.of (h1 : lo ≤ g) (h2 : g < hi) (hE : E = 24 ∨ E = 3) (hr : IRow .i64 E W g m []) (hr' : IRow .i64 E W' g m []) (hg : W.grownBy W' (some g)) : Spl lo hi W W' := by
  refine ⟨⟨hg.os, hg.tape, hg.output, hg.size, fun k hk hL => hg.block k hk (fun e => hL ?_)⟩, fun k cs t hb n1 n2 => (hg.block k hb.lt (fun e => ?_)).trans hb, fun _ _ _ hu => hu.kept hr hr' hg⟩
  · cases e
    rw [List.mem_range'_1]
    omega
  · cases e
    obtain ⟨cs', hb', _⟩ := hr
    have := blk_type hb hb'
    rcases hE with h | h
    · exact n1 (this.trans h)
    · exact n2 (this.trans h)
theorem spl_below {w0 : World} (h : Spl lo hi W W') (hb : Below lo w0 W) (hl : lo ≤ W.heap.size) : Below lo w0 W' :=
  h.touch.below hb hl (fun x hx => by rw [List.mem_range'_1] at hx; omega)

set_option maxHeartbeats 1000000 in
theorem spoilK_row (g n c : Nat) (w : World) (h : IRow .i64 24 w g (c * 2) []) (hn : n ≤ c) (hc : c ≤ 9223372036854775807) :
    Calls Try.prog 44 #[.slice (some ⟨g, 0, none⟩) n c] w fun e w' => e = .returned (.tuple #[]) ∧ IRow .i64 24 w' g (c * 2) [] ∧ w.grownBy w' (some g) := by
  have H := Lib.hid h
  clear h
  go_enter Try.func44, Try.ntmps44
  go_wp2
  go_loopg [3] c (fun gk i wr => ∃ k : Nat, k ≤ c ∧ gk = c - k ∧ i = .int .i64 k ∧ IRow .i64 24 wr g (c * 2) [] ∧ w.grownBy wr (some g))
  case atStart => exact ⟨0, Nat.zero_le _, rfl, rfl, H.out, only_refl _ _⟩
  case round =>
    obtain ⟨k, hk, rfl, rfl, hrow, hg⟩ := hrel
    by_cases hlt : k < c
    · obtain ⟨a, h0⟩ := hrow.any (j := k * 2) (by omega)
      obtain ⟨b, h1⟩ := hrow.any (j := k * 2 + 1) (by omega)
      have f0 := hrow.frozen (k * 2)
      have f1 := hrow.frozen (k * 2 + 1)
      have hki : (k : Int) < (c : Int) := by omega
      have hk0 : (0 : Int) ≤ (k : Int) := by omega
      have HR := Lib.hid hrow
      have HG := Lib.hid hg
      clear hrow hg
      go_wp2
      go_roundg (c - (k + 1))
      case measure => omega
      case rel => exact ⟨k + 1, by omega, rfl, by go_num, (HR.out.set_ _ _).set_ _ _, only_set (only_set HG.out _ _) _ _⟩
    · obtain rfl : k = c := by omega
      have hki : ¬ (k : Int) < (k : Int) := by omega
      have HR := Lib.hid hrow
      have HG := Lib.hid hg
      clear hrow hg
      go_wp2
      go_end0
      exact ⟨rfl, HR.out, HG.out⟩
theorem spoilK_nil (w : World) :
    Calls Try.prog 44 #[.slice none 0 0] w fun e w' => e = .returned (.tuple #[]) ∧ w = w' := by
  go_enter Try.func44, Try.ntmps44
  go_wp2
  go_loopg [3] 0 (fun gk i wr => i = .int .i64 0 ∧ w = wr)
  case atStart => exact ⟨rfl, rfl⟩
  case round =>
    obtain ⟨rfl, rfl⟩ := hrel
    go_wp2
    go_end0
    exact ⟨rfl, rfl⟩
theorem spoilK (h : SpV lo hi 24 2 W v) : Calls Try.prog 44 #[v] W fun e w' => e = .returned (.tuple #[]) ∧ Spl lo hi W w' := by
  rcases h with rfl | ⟨g, n, cap, rfl, h1, h2, h3, h4, h5⟩
  · refine (spoilK_nil W).mono ?_
    rintro e w' ⟨rfl, rfl⟩
    exact ⟨rfl, Spl.refl _ _ _⟩
  · refine (spoilK_row g n cap W h5 h3 (by unfold maxLen at h4; omega)).mono ?_
    rintro e w' ⟨rfl, hr, hg⟩
    exact ⟨rfl, Spl.of h1 h2 (.inl rfl) h5 hr hg⟩
theorem spoilI (h : SpV lo hi 3 1 W v) : Calls Try.prog 45 #[v] W fun e w' => e = .returned (.tuple #[]) ∧ Spl lo hi W w' := by
  rcases h with rfl | ⟨g, n, cap, rfl, h1, h2, h3, h4, h5⟩
  · refine (Ints.spoil_nil W).mono ?_
    rintro e w' ⟨rfl, rfl⟩
    exact ⟨rfl, Spl.refl _ _ _⟩
  · rw [Nat.mul_one] at h5
    refine (Ints.spoil_row g n cap W h5 h3 (by unfold maxLen at h4; omega)).mono ?_
    rintro e w' ⟨rfl, hr, hg⟩
    exact ⟨rfl, Spl.of h1 h2 (.inr rfl) h5 hr hg⟩

/-- pages that may be written over. -/
def SpNs (lo hi : Nat) (W : World) (v : Value) (n : Nat) : Prop :=
  ∃ A c, v = .slice A n c ∧ (0 < n → ∃ g cur, A = some ⟨g, 0, none⟩ ∧ Blk W g 60 cur ∧ ∀ i, i < n → ∃ kv vv cv, cur[i * 3]? = some kv ∧ cur[i * 3 + 1]? = some vv ∧ cur[i * 3 + 2]? = some cv ∧
    SpV lo hi 24 2 W kv ∧ SpV lo hi 3 1 W vv ∧ SpV lo hi 3 1 W cv)
theorem SpV.ofOwn {n : Nat} {xs : List Value} (h : OwnG IntV W lo E size v n xs) (hi : Nat) (hh : W.heap.size ≤ hi) : SpV lo hi E size W v := by
  rcases h.1.2 with ⟨rfl, _⟩ | ⟨g, cap, cur, e, h1, hg, hn, hm, hs, _⟩
  · exact .inl rfl
  · exact .inr ⟨g, n, cap, e, h1, Nat.lt_of_lt_of_le (Array.getElem?_eq_some_iff.1 hg).1 hh, hn, hm, cur, hg, hs, by simp, by simp, h.2 g cap cur e hg⟩
theorem OwnNs.sp {F : List Nat} {l : List NdR} (h : OwnNs lo F W v l) (hb : Below W.heap.size W W') : SpNs lo W.heap.size W' v l.length := by
  obtain ⟨ts, h1, h2, h3⟩ := h
  rcases h1.2 with ⟨rfl, h0⟩ | ⟨g, cap, cur, rfl, _, hg, hn, _, hs, ht⟩
  · exact ⟨none, 0, by rw [h0], fun hp => absurd hp (by omega)⟩
  · have hbk : Blk W g 60 cur := hg
    refine ⟨_, cap, rfl, fun _ => ⟨g, cur, rfl, hbk.below hb hbk.lt, fun i hi => ?_⟩⟩
    obtain ⟨c1, c2, c3⟩ := tcells_at ts i (by omega)
    have key : ∀ j u, j < l.length * 3 → (tcells ts)[j]? = some u → cur[j]? = some u := fun j u hj hu => by
      rw [← ht, List.getElem?_take, if_pos hj] at hu
      simpa using hu
    have hti := h3 i hi
    exact ⟨_, _, _, key _ _ (by omega) c1, key _ _ (by omega) c2, key _ _ (by omega) c3, (SpV.ofOwn hti.k _ (Nat.le_refl _)).on hb, (SpV.ofOwn hti.v _ (Nat.le_refl _)).on hb, (SpV.ofOwn hti.c _ (Nat.le_refl _)).on hb⟩

set_option maxRecDepth 100000 in
set_option maxHeartbeats 1000000 in
theorem spoilt_any {n : Nat} (h : SpNs lo hi W v n) (hn : n ≤ 1000000) : Calls Try.prog 31 #[v] W fun e w' => e = .returned (.tuple #[]) ∧ Spl lo hi W w' := by
  obtain ⟨A, c, rfl, hA⟩ := h
  have HA := Lib.hid hA
  clear hA
  go_enter Try.func31, Try.ntmps31
  go_wp2_with fail
  go_loopg [2] n (fun g' i wr => ∃ x : Nat, x ≤ n ∧ g' = n - x ∧ i = .int .i64 x ∧ Spl lo hi W wr)
  case atStart => exact ⟨0, Nat.zero_le _, rfl, rfl, Spl.refl _ _ _⟩
  case round =>
    obtain ⟨x, hx, rfl, rfl, hS⟩ := hrel
    by_cases hlt : x < n
    · have hki : (x : Int) < (n : Int) := by omega
      have hk0 : (0 : Int) ≤ (x : Int) := by omega
      obtain ⟨g, cur, rfl, hb, hr⟩ := HA.out (by omega)
      obtain ⟨kv, vv, cv, e1, e2, e3, s1, s2, s3⟩ := hr x hlt
      have HC := Lib.hid (show ∀ X, Spl lo hi W X → (X.cell? ⟨g, x * 3, none⟩ = some kv ∧ X.cell? ⟨g, x * 3 + 1, none⟩ = some vv ∧ X.cell? ⟨g, x * 3 + 2, none⟩ = some cv) from fun X hX => by
        have hbX := hX.other g cur _ hb (by decide) (by decide)
        exact ⟨by rw [hbX.cell]; exact e1, by rw [hbX.cell]; exact e2, by rw [hbX.cell]; exact e3⟩)
      have HS := Lib.hid (And.intro s1 (And.intro s2 s3))
      have c1 := (HC.out _ hS).1
      have HK := Lib.hid (spoilK (hS.keep _ _ _ s1))
      have HX := Lib.hid hS
      clear hb hr e1 e2 e3 s1 s2 s3 hS
      go_wp2_with (go_at_call 44; (with_reducible refine Calls.mono HK.out ?_); rintro e w1 ⟨rfl, k1⟩; have h1 := HX.out.trans k1; have c2 := (HC.out _ h1).2.1)
      have HK2 := Lib.hid (spoilI (h1.keep _ _ _ HS.out.2.1))
      have HX2 := Lib.hid h1
      clear HX HK h1 c1 k1
      go_wp2_with (go_at_call 45; (with_reducible refine Calls.mono HK2.out ?_); rintro e w2 ⟨rfl, k2⟩; have h1 := HX2.out.trans k2; have c3 := (HC.out _ h1).2.2)
      have HK3 := Lib.hid (spoilI (h1.keep _ _ _ HS.out.2.2))
      have HX3 := Lib.hid h1
      clear HX2 HK2 h1 c2 k2
      go_wp2_with (go_at_call 45; (with_reducible refine Calls.mono HK3.out ?_); rintro e w3 ⟨rfl, k3⟩)
      have h1 := HX3.out.trans k3
      have HX4 := Lib.hid h1
      clear HX3 HK3 h1 c3 k3
      go_wp2_with fail
      go_roundg (n - (x + 1))
      case measure => omega
      case rel => exact ⟨x + 1, by omega, rfl, by go_num, HX4.out⟩
    · obtain rfl : x = n := by omega
      have hki : ¬ (x : Int) < (x : Int) := by omega
      have HX := Lib.hid hS
      clear hS
      go_wp2_with fail
      go_end0
      exact ⟨rfl, HX.out⟩
end
end Go.Proofs.Ytmmikolcipcldaa
