/-
  What is proved here: the law TreeKnown (a closed statement) answers true. Conditions: none.
-/
import Derived.Test.YtmmikolcipcldaaTreeBuild
import Derived.Test.YtmmikolcipcldaaRows
import Derived.Deep.CutBlock
namespace Go.Proofs.Ytmmikolcipcldaa
namespace TreeKnown
open Go.ChangeShapes Go.WideShapes Go.ChangeAt Go.RowKit Go.Deep

section
variable {C X W : World} {b : Nat}
theorem ks_blk {ks : List Ky} (h : Blk X b 24 (kcells ks).toArray) : KsAt X (.slice (some ⟨b, 0, none⟩) ks.length ks.length) ks := by
  refine ⟨_, _, rfl, Nat.le_refl _, fun _ => ⟨b, 0, rfl, h.lt, fun i hi => ?_⟩⟩
  obtain ⟨c1, c2⟩ := kcells_at ks i hi
  rw [Nat.zero_add, h.cell, h.cell]
  exact ⟨by simpa using c1, by simpa using c2⟩
theorem is_blk {xs : List Int} (h : Blk X b 3 (vcells xs).toArray) : IsAt X (.slice (some ⟨b, 0, none⟩) xs.length xs.length) xs := by
  refine ⟨_, _, rfl, Nat.le_refl _, fun _ => ⟨b, 0, rfl, h.lt, fun i hi => ?_⟩⟩
  have c1 := vcells_at xs i hi
  rw [Nat.zero_add, h.cell]
  simpa using c1
theorem lay_k (hb : Below C.heap.size C X) {ks : List Ky} (h : Blk C b 24 (kcells ks).toArray) : KsAt X (.slice (some ⟨b, 0, none⟩) ks.length ks.length) ks := ks_blk (h.below hb h.lt)
theorem lay_i (hb : Below C.heap.size C X) {xs : List Int} (h : Blk C b 3 (vcells xs).toArray) : IsAt X (.slice (some ⟨b, 0, none⟩) xs.length xs.length) xs := is_blk (h.below hb h.lt)
theorem ks_nil (X : World) : KsAt X (.slice none 0 0) [] := ⟨none, 0, rfl, Nat.le_refl _, fun h => absurd h (by simp)⟩
theorem is_nil (X : World) : IsAt X (.slice none 0 0) [] := ⟨none, 0, rfl, Nat.le_refl _, fun h => absurd h (by simp)⟩
/-- a page's three lists. -/
structure Tri where
  k : Value
  v : Value
  c : Value
def tri0 : Tri := ⟨undef, undef, undef⟩
def ncells (L : List (Tri × NdR)) : List Value := L.flatMap (fun x => [x.1.k, x.1.v, x.1.c])
theorem ncells_at : ∀ (L : List (Tri × NdR)) (i : Nat), i < L.length → (ncells L)[i * 3]? = some (L.getD i (tri0, n0)).1.k ∧ (ncells L)[i * 3 + 1]? = some (L.getD i (tri0, n0)).1.v ∧ (ncells L)[i * 3 + 2]? = some (L.getD i (tri0, n0)).1.c
  | [], i, h => absurd h (by simp)
  | k :: ts, 0, _ => ⟨rfl, rfl, rfl⟩
  | k :: ts, i + 1, h => by
    have := ncells_at ts i (by simpa using h)
    exact ⟨by rw [show (i + 1) * 3 = i * 3 + 3 by omega]; exact this.1, by rw [show (i + 1) * 3 + 1 = (i * 3 + 1) + 3 by omega]; exact this.2.1, by rw [show (i + 1) * 3 + 2 = (i * 3 + 2) + 3 by omega]; exact this.2.2⟩
theorem lay_n (hb : Below C.heap.size C X) {L : List (Tri × NdR)} (h : Blk C b 60 (ncells L).toArray) (hN : ∀ x ∈ L, NdAt X x.1.k x.1.v x.1.c x.2) : NdsAt X (.slice (some ⟨b, 0, none⟩) (L.map (·.2)).length (L.map (·.2)).length) (L.map (·.2)) := by
  have h' := h.below hb h.lt
  refine ⟨_, _, rfl, Nat.le_refl _, fun _ => ⟨b, 0, rfl, h'.lt, fun i hi => ?_⟩⟩
  rw [List.length_map] at hi
  obtain ⟨c1, c2, c3⟩ := ncells_at L i hi
  refine ⟨(L.getD i (tri0, n0)).1.k, (L.getD i (tri0, n0)).1.v, (L.getD i (tri0, n0)).1.c, ?_, ?_, ?_, ?_⟩
  · rw [Nat.zero_add, h'.cell]; simpa using c1
  · rw [Nat.zero_add, h'.cell]; simpa using c2
  · rw [Nat.zero_add, h'.cell]; simpa using c3
  · have e : (L.map (·.2)).getD i n0 = (L.getD i (tri0, n0)).2 := by simp [hi]
    rw [e]
    exact hN _ (by rw [List.getD_eq_getElem?_getD, List.getElem?_eq_getElem hi]; exact List.getElem_mem hi)
end
def leafN (t : Int) : NdR := ⟨[⟨t, 0⟩], [t], []⟩
set_option maxHeartbeats 1000000 in
theorem leaf_any (t : Int) (w : World) : Calls Try.prog 27 #[.int .i64 t] w fun e w' => ∃ g1 g2, e = .returned (.agg #[.slice (some ⟨g1, 0, none⟩) 1 1, .slice (some ⟨g2, 0, none⟩) 1 1, .slice none 0 0]) ∧ NdAt w' (.slice (some ⟨g1, 0, none⟩) 1 1) (.slice (some ⟨g2, 0, none⟩) 1 1) (.slice none 0 0) (leafN t) ∧ Below w.heap.size w w' := by
  go_enter Try.func27, Try.ntmps27
  go_wp2_with (go_at_call 26; (with_reducible refine Calls.mono (key_any _ _ _) ?_); rintro e wk ⟨rfl, hbk⟩; have hB := (Blk.new w 60 #[.slice none 0 0, .slice none 0 0, .slice none 0 0]).below hbk (by simp); obtain ⟨c0, c1, c2, f0, f1, f2⟩ := hB.three; have hz := hbk.size; simp only [World.size_alloc] at hz; have hz1 : w.heap.size < wk.heap.size := (by omega); have hz2 : w.heap.size < wk.heap.size + 1 := (by omega))
  have hB3 : Blk (((wk.setCell ⟨w.heap.size, 0, none⟩ (.slice (some ⟨wk.heap.size, 0, none⟩) 1 1)).setCell ⟨w.heap.size, 1, none⟩ (.slice (some ⟨wk.heap.size + 1, 0, none⟩) 1 1)).setCell ⟨w.heap.size, 2, none⟩ (.slice none 0 0)) w.heap.size 60 #[.slice (some ⟨wk.heap.size, 0, none⟩) 1 1, .slice (some ⟨wk.heap.size + 1, 0, none⟩) 1 1, .slice none 0 0] := ((hB.set_ 0 _).set_ 1 _).set_ 2 _
  obtain ⟨g0, g1, g2, _⟩ := hB3.three
  refine bodyPost_ret (v := .agg #[.slice (some ⟨wk.heap.size, 0, none⟩) 1 1, .slice (some ⟨wk.heap.size + 1, 0, none⟩) 1 1, .slice none 0 0]) ?_ rfl ⟨_, _, rfl, ⟨?_, ?_, is_nil _⟩, by (repeat (first | (with_reducible assumption) | (with_reducible exact Below.refl _ _) | ((with_reducible refine Below.setCell ?_ ?_ _); rotate_left; · (first | omega | (simp; done) | (simp; omega) | (simp at *; omega))) | ((with_reducible refine Below.alloc ?_ ?_ _); rotate_left; · (first | omega | (simp; done) | (simp; omega) | (simp at *; omega))) | (with_reducible refine Below.drew ?_) | (with_reducible refine below_drewN ?_ _) | ((refine Below.trans ?_ (Below.mono (by with_reducible assumption) ?_)); rotate_left; · (first | omega | (simp; done) | (simp; omega) | (simp at *; omega)))))⟩
  · simp [results, Try.results27, go_sem, g0, g1, g2, hz1, hz2]
  · exact ks_blk (ks := [⟨t, 0⟩]) ((Blk.at_end _ _ _ (by simp)).alloc _)
  · exact is_blk (xs := [t]) (Blk.at_end _ _ _ (by simp))
def goodL : List NdR := [⟨[⟨5, 0⟩], [5], [2, 1]⟩, leafN 7, leafN 3]
def badL : List (List NdR) := [[⟨[⟨1, 1⟩, ⟨1, 2⟩], [11], []⟩],
  [⟨[⟨1, 2⟩, ⟨1, 1⟩], [12, 11], []⟩],
  [⟨[⟨1, 1⟩, ⟨1, 1⟩], [12, 11], []⟩],
  [⟨[⟨1, 1⟩, ⟨1, 2⟩], [11, 12], [0, 0, 0]⟩],
  [⟨[], [], []⟩],
  [(leafN 1), (leafN 2)],
  [⟨[⟨5, 0⟩], [5], [1, 1]⟩, (leafN 3)],
  [⟨[⟨5, 0⟩], [5], [1, 2]⟩, (leafN 7), (leafN 3)],
  [⟨[⟨5, 0⟩], [5], [1, 3]⟩, (leafN 3), (leafN 7)],
  [⟨[⟨5, 0⟩], [5], [1, -1]⟩, (leafN 3)],
  [⟨[⟨5, 0⟩], [5], [1, 2]⟩, (leafN 3), ⟨[⟨7, 0⟩], [7], [3, 4]⟩, (leafN 6), (leafN 8)],
  [⟨[⟨5, 0⟩], [5], [1, 2]⟩, (leafN 3), (leafN 7), ⟨[⟨9, 0⟩], [9], [4, 3]⟩, (leafN 8)],
  [⟨[⟨1, 0⟩, ⟨2, 0⟩, ⟨3, 0⟩, ⟨4, 0⟩], [1, 2, 3, 4], []⟩]]
def GoodAt (w W : World) (s : Value) : Prop := ∃ g, s = .slice (some ⟨g, 0, none⟩) 3 3 ∧ NdsAt W (.slice (some ⟨g, 0, none⟩) 3 3) goodL ∧ Below w.heap.size w W
def RowsAt (w W : World) (s : Value) : Prop := ∃ rb, s = .slice (some ⟨rb, 0, none⟩) 13 13 ∧ rb < W.heap.size ∧ Below w.heap.size w W ∧ ∀ i, i < 13 → ∃ A c, W.cell? ⟨rb, i, none⟩ = some (.slice A (badL.getD i []).length c) ∧ NdsAt W (.slice A (badL.getD i []).length c) (badL.getD i [])
theorem rows_end {w W : World} {rb : Nat} {V : Array Value} (hR : Blk W rb 51 V) (hB : Below w.heap.size w W) (h : ∀ i, i < 13 → ∃ A c, V[i]? = some (.slice A (badL.getD i []).length c) ∧ NdsAt W (.slice A (badL.getD i []).length c) (badL.getD i [])) : RowsAt w W (.slice (some ⟨rb, 0, none⟩) 13 13) :=
  ⟨rb, rfl, hR.lt, hB, fun i hi => by
    obtain ⟨A, c, h1, h2⟩ := h i hi
    exact ⟨A, c, by rw [hR.cell]; exact h1, h2⟩⟩
theorem good_is : ofE 2 goodL = some [(⟨3, 0⟩, 3), (⟨5, 0⟩, 5), (⟨7, 0⟩, 7)] := by decide
theorem good_not : ofE 3 goodL = none := by decide
theorem bad_not : ∀ i, i < 13 → ofE 2 (badL.getD i []) = none ∧ 0 < (badL.getD i []).length := by decide
theorem fit_of {l : List NdR} (h : (decide (l.length ≤ 1000000) && l.all (fun n => decide (n.ks.length ≤ 1000 ∧ n.vs.length ≤ 1000 ∧ n.kids.length ≤ 1000))) = true) : NdsFit l := by
  rw [Bool.and_eq_true, decide_eq_true_eq, List.all_eq_true] at h
  exact ⟨h.1, fun n hn => by have := h.2 n hn; rw [decide_eq_true_eq] at this; omega⟩
theorem bad_fit (i : Nat) (hi : i < 13) : NdsFit (badL.getD i []) := fit_of (by revert i; decide)
theorem good_fit : NdsFit goodL := fit_of (by decide)

set_option maxRecDepth 1000000 in
set_option maxHeartbeats 4000000 in
theorem walk (w : World) : Calls Try.prog 7 #[] w fun e w' => e = .returned (.bool true) ∧ Below w.heap.size w w' := by
  go_enter Try.func7, Try.ntmps7
  go_upto_block 0 with fail
  go_cut [] (fun wz => Below w.heap.size w wz)
  case first =>
    go_wp2_with fail
    go_loopg [1] 19 (fun g i wr => ∃ k : Nat, k ≤ 19 ∧ g = 19 - k ∧ i = .int .i64 k ∧ Below w.heap.size w wr)
    case atStart => exact ⟨0, by omega, rfl, rfl, Below.refl _ _⟩
    case round =>
      obtain ⟨k, hk, rfl, rfl, hb⟩ := hrel
      have HB := Lib.hid hb
      clear hb
      by_cases hlt : k < 19
      · have hki : (k : Int) < 19 := by omega
        by_cases h1 : 2 ≤ k
        · have h1i : (2 : Int) ≤ (k : Int) := by omega
          by_cases h2 : k ≤ 16
          · have h2i : (k : Int) ≤ 16 := by omega
            have HN := Lib.hid (new_any k wr h1 h2)
            have HO := Lib.hid (of_empty (d := k) none 0 (wr.alloc (.cells #[.int .i64 k, .pointer none, .int .i64 0] 71)) h1 h2)
            go_wp2_with (first
              | (go_at_call 10; (with_reducible refine Calls.mono HN.out ?_); rintro e w1 ⟨rfl, rfl⟩)
              | (go_at_call 25; (with_reducible refine Calls.mono HO.out ?_); rintro e w1 ⟨rfl, rfl⟩))
            go_roundg (19 - (k + 1))
            case measure => omega
            case rel => exact ⟨k + 1, by omega, rfl, by go_num, (HB.out.alloc HB.out.size _).alloc (by have := HB.out.size; simp; omega) _⟩
          · have h2i : ¬ (k : Int) ≤ 16 := by omega
            have HN := Lib.hid (new_no (k : Int) wr (.inr (by omega)))
            have HO := Lib.hid (of_range (d := (k : Int)) (.slice none 0 0) wr (.inr (by omega)))
            go_wp2_with (first
              | (go_at_call 10; (with_reducible refine Calls.mono HN.out ?_); rintro e w1 ⟨rfl, rfl⟩)
              | (go_at_call 25; (with_reducible refine Calls.mono HO.out ?_); rintro e w1 ⟨rfl, rfl⟩))
            go_roundg (19 - (k + 1))
            case measure => omega
            case rel => exact ⟨k + 1, by omega, rfl, by go_num, HB.out⟩
        · have h1i : ¬ (2 : Int) ≤ (k : Int) := by omega
          have HN := Lib.hid (new_no (k : Int) wr (.inl (by omega)))
          have HO := Lib.hid (of_range (d := (k : Int)) (.slice none 0 0) wr (.inl (by omega)))
          go_wp2_with (first
            | (go_at_call 10; (with_reducible refine Calls.mono HN.out ?_); rintro e w1 ⟨rfl, rfl⟩)
            | (go_at_call 25; (with_reducible refine Calls.mono HO.out ?_); rintro e w1 ⟨rfl, rfl⟩))
          go_roundg (19 - (k + 1))
          case measure => omega
          case rel => exact ⟨k + 1, by omega, rfl, by go_num, HB.out⟩
      · obtain rfl : k = 19 := by omega
        go_wp2_with fail
        go_meet
        exact HB.out
  have hlow := hcut
  obtain ⟨wy, rfl⟩ : ∃ wq : World, wq = wc := ⟨_, rfl⟩
  clear hcut
  -- the good pages
  go_upto_region 9 with fail
  go_cut [7] (fun s wz => GoodAt w wz s)
  case first =>
    go_wp2_with fail
    with_reducible refine Calls.mono (key_any _ _ _) ?_
    rintro e wq70 ⟨rfl, hbk⟩
    have hB : Below wy.heap.size wy wq70 := by (repeat (first | (with_reducible assumption) | (with_reducible exact Below.refl _ _) | ((with_reducible refine Below.setCell ?_ ?_ _); rotate_left; · (first | omega | (simp; done) | (simp; omega) | (simp at *; omega))) | ((with_reducible refine Below.alloc ?_ ?_ _); rotate_left; · (first | omega | (simp; done) | (simp; omega) | (simp at *; omega))) | (with_reducible refine Below.drew ?_) | (with_reducible refine below_drewN ?_ _) | ((refine Below.trans ?_ (Below.mono (by with_reducible assumption) ?_)); rotate_left; · (first | omega | (simp; done) | (simp; omega) | (simp at *; omega)))))
    replace hlow := hlow.trans (hB.mono hlow.size)
    clear hB hbk
    go_wp2_with fail
    with_reducible refine Calls.mono (leaf_any _ _) ?_
    rintro e wq75 ⟨g75_1, g75_2, rfl, fg75, hbk⟩
    have hB : Below wq70.heap.size wq70 wq75 := by (repeat (first | (with_reducible assumption) | (with_reducible exact Below.refl _ _) | ((with_reducible refine Below.setCell ?_ ?_ _); rotate_left; · (first | omega | (simp; done) | (simp; omega) | (simp at *; omega))) | ((with_reducible refine Below.alloc ?_ ?_ _); rotate_left; · (first | omega | (simp; done) | (simp; omega) | (simp at *; omega))) | (with_reducible refine Below.drew ?_) | (with_reducible refine below_drewN ?_ _) | ((refine Below.trans ?_ (Below.mono (by with_reducible assumption) ?_)); rotate_left; · (first | omega | (simp; done) | (simp; omega) | (simp at *; omega)))))
    have F71 := Lib.hid (show KsAt wq75 (.slice (some ⟨wq70.heap.size, 0, none⟩) 1 1) [⟨5, 0⟩] from lay_k hbk (ks := [⟨5, 0⟩]) (((Blk.at_end _ _ _ (by simp)).alloc _).alloc _))
    have F72 := Lib.hid (show IsAt wq75 (.slice (some ⟨wq70.heap.size + 1, 0, none⟩) 1 1) [5] from lay_i hbk (xs := [5]) ((Blk.at_end _ _ _ (by simp)).alloc _))
    have F73 := Lib.hid (show IsAt wq75 (.slice (some ⟨wq70.heap.size + 1 + 1, 0, none⟩) 2 2) [2, 1] from lay_i hbk (xs := [2, 1]) (Blk.at_end _ _ _ (by simp)))
    have Fg75 := Lib.hid fg75
    clear fg75
    replace hlow := hlow.trans (hB.mono hlow.size)
    clear hB hbk
    go_wp2_with fail
    with_reducible refine Calls.mono (leaf_any _ _) ?_
    rintro e wq76 ⟨g76_1, g76_2, rfl, fg76, hbk⟩
    have hB : Below wq75.heap.size wq75 wq76 := by (repeat (first | (with_reducible assumption) | (with_reducible exact Below.refl _ _) | ((with_reducible refine Below.setCell ?_ ?_ _); rotate_left; · (first | omega | (simp; done) | (simp; omega) | (simp at *; omega))) | ((with_reducible refine Below.alloc ?_ ?_ _); rotate_left; · (first | omega | (simp; done) | (simp; omega) | (simp at *; omega))) | (with_reducible refine Below.drew ?_) | (with_reducible refine below_drewN ?_ _) | ((refine Below.trans ?_ (Below.mono (by with_reducible assumption) ?_)); rotate_left; · (first | omega | (simp; done) | (simp; omega) | (simp at *; omega)))))
    replace F71 := Lib.hid (F71.out.on hB (Nat.le_refl _))
    replace F72 := Lib.hid (F72.out.on hB (Nat.le_refl _))
    replace F73 := Lib.hid (F73.out.on hB (Nat.le_refl _))
    replace Fg75 := Lib.hid (Fg75.out.on hB (Nat.le_refl _))
    have Fg76 := Lib.hid fg76
    clear fg76
    replace hlow := hlow.trans (hB.mono hlow.size)
    clear hB hbk
    go_wp2_with fail
    go_meet
    exact ⟨_, rfl, (lay_n (Below.refl _ _) (L := [(⟨.slice (some ⟨wq70.heap.size, 0, none⟩) 1 1, .slice (some ⟨wq70.heap.size + 1, 0, none⟩) 1 1, .slice (some ⟨wq70.heap.size + 1 + 1, 0, none⟩) 2 2⟩, ⟨[⟨5, 0⟩], [5], [2, 1]⟩), (⟨.slice (some ⟨g75_1, 0, none⟩) 1 1, .slice (some ⟨g75_2, 0, none⟩) 1 1, .slice none 0 0⟩, (leafN 7)), (⟨.slice (some ⟨g76_1, 0, none⟩) 1 1, .slice (some ⟨g76_2, 0, none⟩) 1 1, .slice none 0 0⟩, (leafN 3))]) (Blk.at_end _ _ _ (by simp)) (fun x hx => by (simp only [List.mem_cons, List.not_mem_nil, or_false] at hx; rcases hx with rfl | rfl | rfl; (exact ⟨(F71.out.on (by (repeat (first | (with_reducible assumption) | (with_reducible exact Below.refl _ _) | ((with_reducible refine Below.setCell ?_ ?_ _); rotate_left; · (first | omega | (simp; done) | (simp; omega) | (simp at *; omega))) | ((with_reducible refine Below.alloc ?_ ?_ _); rotate_left; · (first | omega | (simp; done) | (simp; omega) | (simp at *; omega))) | (with_reducible refine Below.drew ?_) | (with_reducible refine below_drewN ?_ _) | ((refine Below.trans ?_ (Below.mono (by with_reducible assumption) ?_)); rotate_left; · (first | omega | (simp; done) | (simp; omega) | (simp at *; omega)))))) (Nat.le_refl _)), (F72.out.on (by (repeat (first | (with_reducible assumption) | (with_reducible exact Below.refl _ _) | ((with_reducible refine Below.setCell ?_ ?_ _); rotate_left; · (first | omega | (simp; done) | (simp; omega) | (simp at *; omega))) | ((with_reducible refine Below.alloc ?_ ?_ _); rotate_left; · (first | omega | (simp; done) | (simp; omega) | (simp at *; omega))) | (with_reducible refine Below.drew ?_) | (with_reducible refine below_drewN ?_ _) | ((refine Below.trans ?_ (Below.mono (by with_reducible assumption) ?_)); rotate_left; · (first | omega | (simp; done) | (simp; omega) | (simp at *; omega)))))) (Nat.le_refl _)), (F73.out.on (by (repeat (first | (with_reducible assumption) | (with_reducible exact Below.refl _ _) | ((with_reducible refine Below.setCell ?_ ?_ _); rotate_left; · (first | omega | (simp; done) | (simp; omega) | (simp at *; omega))) | ((with_reducible refine Below.alloc ?_ ?_ _); rotate_left; · (first | omega | (simp; done) | (simp; omega) | (simp at *; omega))) | (with_reducible refine Below.drew ?_) | (with_reducible refine below_drewN ?_ _) | ((refine Below.trans ?_ (Below.mono (by with_reducible assumption) ?_)); rotate_left; · (first | omega | (simp; done) | (simp; omega) | (simp at *; omega)))))) (Nat.le_refl _))⟩); (exact Fg75.out.on (by (repeat (first | (with_reducible assumption) | (with_reducible exact Below.refl _ _) | ((with_reducible refine Below.setCell ?_ ?_ _); rotate_left; · (first | omega | (simp; done) | (simp; omega) | (simp at *; omega))) | ((with_reducible refine Below.alloc ?_ ?_ _); rotate_left; · (first | omega | (simp; done) | (simp; omega) | (simp at *; omega))) | (with_reducible refine Below.drew ?_) | (with_reducible refine below_drewN ?_ _) | ((refine Below.trans ?_ (Below.mono (by with_reducible assumption) ?_)); rotate_left; · (first | omega | (simp; done) | (simp; omega) | (simp at *; omega)))))) (Nat.le_refl _)); (exact Fg76.out.on (by (repeat (first | (with_reducible assumption) | (with_reducible exact Below.refl _ _) | ((with_reducible refine Below.setCell ?_ ?_ _); rotate_left; · (first | omega | (simp; done) | (simp; omega) | (simp at *; omega))) | ((with_reducible refine Below.alloc ?_ ?_ _); rotate_left; · (first | omega | (simp; done) | (simp; omega) | (simp at *; omega))) | (with_reducible refine Below.drew ?_) | (with_reducible refine below_drewN ?_ _) | ((refine Below.trans ?_ (Below.mono (by with_reducible assumption) ?_)); rotate_left; · (first | omega | (simp; done) | (simp; omega) | (simp at *; omega)))))) (Nat.le_refl _))))), hlow.trans (Below.mono (by (repeat (first | (with_reducible assumption) | (with_reducible exact Below.refl _ _) | ((with_reducible refine Below.setCell ?_ ?_ _); rotate_left; · (first | omega | (simp; done) | (simp; omega) | (simp at *; omega))) | ((with_reducible refine Below.alloc ?_ ?_ _); rotate_left; · (first | omega | (simp; done) | (simp; omega) | (simp at *; omega))) | (with_reducible refine Below.drew ?_) | (with_reducible refine below_drewN ?_ _) | ((refine Below.trans ?_ (Below.mono (by with_reducible assumption) ?_)); rotate_left; · (first | omega | (simp; done) | (simp; omega) | (simp at *; omega)))))) hlow.size)⟩
  obtain ⟨gg, rfl, hG, hlow⟩ := hcut
  obtain ⟨wz, rfl⟩ : ∃ wq : World, wq = wc := ⟨_, rfl⟩
  have HG := Lib.hid hG
  have HLOW := Lib.hid hlow
  clear hG hlow
  have HOF := Lib.hid (show Calls Try.prog 25 #[.int .i64 2, .slice (some ⟨gg, 0, none⟩) 3 3] wz fun e w' => ∃ tr, e = .returned (.tuple #[.pointer (some ⟨tr, 0, none⟩), .int .i64 0]) ∧ Has wz.heap.size wz tr 2 [(⟨3, 0⟩, 3), (⟨5, 0⟩, 5), (⟨7, 0⟩, 7)] w' from
    (of_any (d := 2) (by omega) (by omega) (show 0 < goodL.length by decide) HG.out good_fit).mono (fun e w' h => by
      rcases h with ⟨es, tr, h1, h2, h3⟩ | ⟨h1, _⟩
      · rw [good_is] at h1
        cases h1
        exact ⟨tr, h2, h3⟩
      · rw [good_is] at h1
        cases h1))
  go_upto_region 11 with (go_at_call 25; (with_reducible refine Calls.mono HOF.out ?_); rintro e w1 ⟨tr, rfl, hH⟩)
  obtain ⟨wa, rfl⟩ : ∃ wq : World, wq = w1 := ⟨_, rfl⟩
  have HLEN := Lib.hid (show Calls Try.prog 28 #[.pointer (some ⟨tr, 0, none⟩)] wa fun e w' => e = .returned (.int .i64 3) ∧ wa = w' from hH.len)
  have hlow : Below w.heap.size w wa := HLOW.out.trans (hH.bel.mono HLOW.out.size)
  have FG := Lib.hid (HG.out.on hH.bel (Nat.le_refl _))
  clear hH HOF HG HLOW
  go_upto_region 13 with (go_at_call 28; (with_reducible refine Calls.mono HLEN.out ?_); rintro e w1 ⟨rfl, rfl⟩)
  clear HLEN
  -- the bad ones
  go_cut [10] (fun s wz => RowsAt w wz s ∧ NdsAt wz (.slice (some ⟨gg, 0, none⟩) 3 3) goodL)
  case first =>
    go_wp2_with fail
    with_reducible refine Calls.mono (key_any _ _ _) ?_
    rintro e wq94 ⟨rfl, hbk⟩
    have hB : Below wa.heap.size wa wq94 := by (repeat (first | (with_reducible assumption) | (with_reducible exact Below.refl _ _) | ((with_reducible refine Below.setCell ?_ ?_ _); rotate_left; · (first | omega | (simp; done) | (simp; omega) | (simp at *; omega))) | ((with_reducible refine Below.alloc ?_ ?_ _); rotate_left; · (first | omega | (simp; done) | (simp; omega) | (simp at *; omega))) | (with_reducible refine Below.drew ?_) | (with_reducible refine below_drewN ?_ _) | ((refine Below.trans ?_ (Below.mono (by with_reducible assumption) ?_)); rotate_left; · (first | omega | (simp; done) | (simp; omega) | (simp at *; omega)))))
    replace FG := Lib.hid (FG.out.on hB (Nat.le_refl _))
    replace hlow := hlow.trans (hB.mono hlow.size)
    clear hB hbk
    go_wp2_with fail
    with_reducible refine Calls.mono (key_any _ _ _) ?_
    rintro e wq95 ⟨rfl, hbk⟩
    have hB : Below wq94.heap.size wq94 wq95 := by (repeat (first | (with_reducible assumption) | (with_reducible exact Below.refl _ _) | ((with_reducible refine Below.setCell ?_ ?_ _); rotate_left; · (first | omega | (simp; done) | (simp; omega) | (simp at *; omega))) | ((with_reducible refine Below.alloc ?_ ?_ _); rotate_left; · (first | omega | (simp; done) | (simp; omega) | (simp at *; omega))) | (with_reducible refine Below.drew ?_) | (with_reducible refine below_drewN ?_ _) | ((refine Below.trans ?_ (Below.mono (by with_reducible assumption) ?_)); rotate_left; · (first | omega | (simp; done) | (simp; omega) | (simp at *; omega)))))
    replace FG := Lib.hid (FG.out.on hB (Nat.le_refl _))
    replace hlow := hlow.trans (hB.mono hlow.size)
    clear hB hbk
    go_wp2_with fail
    with_reducible refine Calls.mono (key_any _ _ _) ?_
    rintro e wq100 ⟨rfl, hbk⟩
    have hB : Below wq95.heap.size wq95 wq100 := by (repeat (first | (with_reducible assumption) | (with_reducible exact Below.refl _ _) | ((with_reducible refine Below.setCell ?_ ?_ _); rotate_left; · (first | omega | (simp; done) | (simp; omega) | (simp at *; omega))) | ((with_reducible refine Below.alloc ?_ ?_ _); rotate_left; · (first | omega | (simp; done) | (simp; omega) | (simp at *; omega))) | (with_reducible refine Below.drew ?_) | (with_reducible refine below_drewN ?_ _) | ((refine Below.trans ?_ (Below.mono (by with_reducible assumption) ?_)); rotate_left; · (first | omega | (simp; done) | (simp; omega) | (simp at *; omega)))))
    replace FG := Lib.hid (FG.out.on hB (Nat.le_refl _))
    have F96 := Lib.hid (show KsAt wq100 (.slice (some ⟨wq95.heap.size, 0, none⟩) 2 2) [⟨1, 1⟩, ⟨1, 2⟩] from lay_k hbk (ks := [⟨1, 1⟩, ⟨1, 2⟩]) (((Blk.at_end _ _ _ (by simp)).alloc _).alloc _))
    have F97 := Lib.hid (show IsAt wq100 (.slice (some ⟨wq95.heap.size + 1, 0, none⟩) 1 1) [11] from lay_i hbk (xs := [11]) ((Blk.at_end _ _ _ (by simp)).alloc _))
    have F99 := Lib.hid (show NdsAt wq100 (.slice (some ⟨wq95.heap.size + 1 + 1, 0, none⟩) 1 1) [⟨[⟨1, 1⟩, ⟨1, 2⟩], [11], []⟩] from lay_n hbk (L := [(⟨.slice (some ⟨wq95.heap.size, 0, none⟩) 2 2, .slice (some ⟨wq95.heap.size + 1, 0, none⟩) 1 1, .slice none 0 0⟩, ⟨[⟨1, 1⟩, ⟨1, 2⟩], [11], []⟩)]) (Blk.at_end _ _ _ (by simp)) (by
      intro x hx
      simp only [List.mem_cons, List.not_mem_nil, or_false] at hx
      subst hx
      exact ⟨F96.out, F97.out, is_nil _⟩))
    clear F96 F97
    replace hlow := hlow.trans (hB.mono hlow.size)
    clear hB hbk
    go_wp2_with fail
    with_reducible refine Calls.mono (key_any _ _ _) ?_
    rintro e wq101 ⟨rfl, hbk⟩
    have hB : Below wq100.heap.size wq100 wq101 := by (repeat (first | (with_reducible assumption) | (with_reducible exact Below.refl _ _) | ((with_reducible refine Below.setCell ?_ ?_ _); rotate_left; · (first | omega | (simp; done) | (simp; omega) | (simp at *; omega))) | ((with_reducible refine Below.alloc ?_ ?_ _); rotate_left; · (first | omega | (simp; done) | (simp; omega) | (simp at *; omega))) | (with_reducible refine Below.drew ?_) | (with_reducible refine below_drewN ?_ _) | ((refine Below.trans ?_ (Below.mono (by with_reducible assumption) ?_)); rotate_left; · (first | omega | (simp; done) | (simp; omega) | (simp at *; omega)))))
    replace FG := Lib.hid (FG.out.on hB (Nat.le_refl _))
    replace F99 := Lib.hid (F99.out.on hB (Nat.le_refl _))
    replace hlow := hlow.trans (hB.mono hlow.size)
    clear hB hbk
    go_wp2_with fail
    with_reducible refine Calls.mono (key_any _ _ _) ?_
    rintro e wq106 ⟨rfl, hbk⟩
    have hB : Below wq101.heap.size wq101 wq106 := by (repeat (first | (with_reducible assumption) | (with_reducible exact Below.refl _ _) | ((with_reducible refine Below.setCell ?_ ?_ _); rotate_left; · (first | omega | (simp; done) | (simp; omega) | (simp at *; omega))) | ((with_reducible refine Below.alloc ?_ ?_ _); rotate_left; · (first | omega | (simp; done) | (simp; omega) | (simp at *; omega))) | (with_reducible refine Below.drew ?_) | (with_reducible refine below_drewN ?_ _) | ((refine Below.trans ?_ (Below.mono (by with_reducible assumption) ?_)); rotate_left; · (first | omega | (simp; done) | (simp; omega) | (simp at *; omega)))))
    replace FG := Lib.hid (FG.out.on hB (Nat.le_refl _))
    replace F99 := Lib.hid (F99.out.on hB (Nat.le_refl _))
    have F102 := Lib.hid (show KsAt wq106 (.slice (some ⟨wq101.heap.size, 0, none⟩) 2 2) [⟨1, 2⟩, ⟨1, 1⟩] from lay_k hbk (ks := [⟨1, 2⟩, ⟨1, 1⟩]) (((Blk.at_end _ _ _ (by simp)).alloc _).alloc _))
    have F103 := Lib.hid (show IsAt wq106 (.slice (some ⟨wq101.heap.size + 1, 0, none⟩) 2 2) [12, 11] from lay_i hbk (xs := [12, 11]) ((Blk.at_end _ _ _ (by simp)).alloc _))
    have F105 := Lib.hid (show NdsAt wq106 (.slice (some ⟨wq101.heap.size + 1 + 1, 0, none⟩) 1 1) [⟨[⟨1, 2⟩, ⟨1, 1⟩], [12, 11], []⟩] from lay_n hbk (L := [(⟨.slice (some ⟨wq101.heap.size, 0, none⟩) 2 2, .slice (some ⟨wq101.heap.size + 1, 0, none⟩) 2 2, .slice none 0 0⟩, ⟨[⟨1, 2⟩, ⟨1, 1⟩], [12, 11], []⟩)]) (Blk.at_end _ _ _ (by simp)) (by
      intro x hx
      simp only [List.mem_cons, List.not_mem_nil, or_false] at hx
      subst hx
      exact ⟨F102.out, F103.out, is_nil _⟩))
    clear F102 F103
    replace hlow := hlow.trans (hB.mono hlow.size)
    clear hB hbk
    go_wp2_with fail
    with_reducible refine Calls.mono (key_any _ _ _) ?_
    rintro e wq107 ⟨rfl, hbk⟩
    have hB : Below wq106.heap.size wq106 wq107 := by (repeat (first | (with_reducible assumption) | (with_reducible exact Below.refl _ _) | ((with_reducible refine Below.setCell ?_ ?_ _); rotate_left; · (first | omega | (simp; done) | (simp; omega) | (simp at *; omega))) | ((with_reducible refine Below.alloc ?_ ?_ _); rotate_left; · (first | omega | (simp; done) | (simp; omega) | (simp at *; omega))) | (with_reducible refine Below.drew ?_) | (with_reducible refine below_drewN ?_ _) | ((refine Below.trans ?_ (Below.mono (by with_reducible assumption) ?_)); rotate_left; · (first | omega | (simp; done) | (simp; omega) | (simp at *; omega)))))
    replace FG := Lib.hid (FG.out.on hB (Nat.le_refl _))
    replace F99 := Lib.hid (F99.out.on hB (Nat.le_refl _))
    replace F105 := Lib.hid (F105.out.on hB (Nat.le_refl _))
    replace hlow := hlow.trans (hB.mono hlow.size)
    clear hB hbk
    go_wp2_with fail
    with_reducible refine Calls.mono (key_any _ _ _) ?_
    rintro e wq112 ⟨rfl, hbk⟩
    have hB : Below wq107.heap.size wq107 wq112 := by (repeat (first | (with_reducible assumption) | (with_reducible exact Below.refl _ _) | ((with_reducible refine Below.setCell ?_ ?_ _); rotate_left; · (first | omega | (simp; done) | (simp; omega) | (simp at *; omega))) | ((with_reducible refine Below.alloc ?_ ?_ _); rotate_left; · (first | omega | (simp; done) | (simp; omega) | (simp at *; omega))) | (with_reducible refine Below.drew ?_) | (with_reducible refine below_drewN ?_ _) | ((refine Below.trans ?_ (Below.mono (by with_reducible assumption) ?_)); rotate_left; · (first | omega | (simp; done) | (simp; omega) | (simp at *; omega)))))
    replace FG := Lib.hid (FG.out.on hB (Nat.le_refl _))
    replace F99 := Lib.hid (F99.out.on hB (Nat.le_refl _))
    replace F105 := Lib.hid (F105.out.on hB (Nat.le_refl _))
    have F108 := Lib.hid (show KsAt wq112 (.slice (some ⟨wq107.heap.size, 0, none⟩) 2 2) [⟨1, 1⟩, ⟨1, 1⟩] from lay_k hbk (ks := [⟨1, 1⟩, ⟨1, 1⟩]) (((Blk.at_end _ _ _ (by simp)).alloc _).alloc _))
    have F109 := Lib.hid (show IsAt wq112 (.slice (some ⟨wq107.heap.size + 1, 0, none⟩) 2 2) [12, 11] from lay_i hbk (xs := [12, 11]) ((Blk.at_end _ _ _ (by simp)).alloc _))
    have F111 := Lib.hid (show NdsAt wq112 (.slice (some ⟨wq107.heap.size + 1 + 1, 0, none⟩) 1 1) [⟨[⟨1, 1⟩, ⟨1, 1⟩], [12, 11], []⟩] from lay_n hbk (L := [(⟨.slice (some ⟨wq107.heap.size, 0, none⟩) 2 2, .slice (some ⟨wq107.heap.size + 1, 0, none⟩) 2 2, .slice none 0 0⟩, ⟨[⟨1, 1⟩, ⟨1, 1⟩], [12, 11], []⟩)]) (Blk.at_end _ _ _ (by simp)) (by
      intro x hx
      simp only [List.mem_cons, List.not_mem_nil, or_false] at hx
      subst hx
      exact ⟨F108.out, F109.out, is_nil _⟩))
    clear F108 F109
    replace hlow := hlow.trans (hB.mono hlow.size)
    clear hB hbk
    go_wp2_with fail
    with_reducible refine Calls.mono (key_any _ _ _) ?_
    rintro e wq113 ⟨rfl, hbk⟩
    have hB : Below wq112.heap.size wq112 wq113 := by (repeat (first | (with_reducible assumption) | (with_reducible exact Below.refl _ _) | ((with_reducible refine Below.setCell ?_ ?_ _); rotate_left; · (first | omega | (simp; done) | (simp; omega) | (simp at *; omega))) | ((with_reducible refine Below.alloc ?_ ?_ _); rotate_left; · (first | omega | (simp; done) | (simp; omega) | (simp at *; omega))) | (with_reducible refine Below.drew ?_) | (with_reducible refine below_drewN ?_ _) | ((refine Below.trans ?_ (Below.mono (by with_reducible assumption) ?_)); rotate_left; · (first | omega | (simp; done) | (simp; omega) | (simp at *; omega)))))
    replace FG := Lib.hid (FG.out.on hB (Nat.le_refl _))
    replace F99 := Lib.hid (F99.out.on hB (Nat.le_refl _))
    replace F105 := Lib.hid (F105.out.on hB (Nat.le_refl _))
    replace F111 := Lib.hid (F111.out.on hB (Nat.le_refl _))
    replace hlow := hlow.trans (hB.mono hlow.size)
    clear hB hbk
    go_wp2_with fail
    with_reducible refine Calls.mono (leaf_any _ _) ?_
    rintro e wq121 ⟨g121_1, g121_2, rfl, fg121, hbk⟩
    have hB : Below wq113.heap.size wq113 wq121 := by (repeat (first | (with_reducible assumption) | (with_reducible exact Below.refl _ _) | ((with_reducible refine Below.setCell ?_ ?_ _); rotate_left; · (first | omega | (simp; done) | (simp; omega) | (simp at *; omega))) | ((with_reducible refine Below.alloc ?_ ?_ _); rotate_left; · (first | omega | (simp; done) | (simp; omega) | (simp at *; omega))) | (with_reducible refine Below.drew ?_) | (with_reducible refine below_drewN ?_ _) | ((refine Below.trans ?_ (Below.mono (by with_reducible assumption) ?_)); rotate_left; · (first | omega | (simp; done) | (simp; omega) | (simp at *; omega)))))
    replace FG := Lib.hid (FG.out.on hB (Nat.le_refl _))
    replace F99 := Lib.hid (F99.out.on hB (Nat.le_refl _))
    replace F105 := Lib.hid (F105.out.on hB (Nat.le_refl _))
    replace F111 := Lib.hid (F111.out.on hB (Nat.le_refl _))
    have F114 := Lib.hid (show KsAt wq121 (.slice (some ⟨wq113.heap.size, 0, none⟩) 2 2) [⟨1, 1⟩, ⟨1, 2⟩] from lay_k hbk (ks := [⟨1, 1⟩, ⟨1, 2⟩]) (((((Blk.at_end _ _ _ (by simp)).alloc _).alloc _).alloc _).alloc _))
    have F115 := Lib.hid (show IsAt wq121 (.slice (some ⟨wq113.heap.size + 1, 0, none⟩) 2 2) [11, 12] from lay_i hbk (xs := [11, 12]) ((((Blk.at_end _ _ _ (by simp)).alloc _).alloc _).alloc _))
    have F116 := Lib.hid (show IsAt wq121 (.slice (some ⟨wq113.heap.size + 1 + 1, 0, none⟩) 3 3) [0, 0, 0] from lay_i hbk (xs := [0, 0, 0]) (((Blk.at_end _ _ _ (by simp)).alloc _).alloc _))
    have F118 := Lib.hid (show NdsAt wq121 (.slice (some ⟨wq113.heap.size + 1 + 1 + 1, 0, none⟩) 1 1) [⟨[⟨1, 1⟩, ⟨1, 2⟩], [11, 12], [0, 0, 0]⟩] from lay_n hbk (L := [(⟨.slice (some ⟨wq113.heap.size, 0, none⟩) 2 2, .slice (some ⟨wq113.heap.size + 1, 0, none⟩) 2 2, .slice (some ⟨wq113.heap.size + 1 + 1, 0, none⟩) 3 3⟩, ⟨[⟨1, 1⟩, ⟨1, 2⟩], [11, 12], [0, 0, 0]⟩)]) ((Blk.at_end _ _ _ (by simp)).alloc _) (by
      intro x hx
      simp only [List.mem_cons, List.not_mem_nil, or_false] at hx
      subst hx
      exact ⟨F114.out, F115.out, F116.out⟩))
    clear F114 F115 F116
    have F120 := Lib.hid (show NdsAt wq121 (.slice (some ⟨wq113.heap.size + 1 + 1 + 1 + 1, 0, none⟩) 1 1) [⟨[], [], []⟩] from lay_n hbk (L := [(⟨.slice none 0 0, .slice none 0 0, .slice none 0 0⟩, ⟨[], [], []⟩)]) (Blk.at_end _ _ _ (by simp)) (by
      intro x hx
      simp only [List.mem_cons, List.not_mem_nil, or_false] at hx
      subst hx
      exact ⟨ks_nil _, is_nil _, is_nil _⟩))
    have Fg121 := Lib.hid fg121
    clear fg121
    replace hlow := hlow.trans (hB.mono hlow.size)
    clear hB hbk
    go_wp2_with fail
    with_reducible refine Calls.mono (leaf_any _ _) ?_
    rintro e wq122 ⟨g122_1, g122_2, rfl, fg122, hbk⟩
    have hB : Below wq121.heap.size wq121 wq122 := by (repeat (first | (with_reducible assumption) | (with_reducible exact Below.refl _ _) | ((with_reducible refine Below.setCell ?_ ?_ _); rotate_left; · (first | omega | (simp; done) | (simp; omega) | (simp at *; omega))) | ((with_reducible refine Below.alloc ?_ ?_ _); rotate_left; · (first | omega | (simp; done) | (simp; omega) | (simp at *; omega))) | (with_reducible refine Below.drew ?_) | (with_reducible refine below_drewN ?_ _) | ((refine Below.trans ?_ (Below.mono (by with_reducible assumption) ?_)); rotate_left; · (first | omega | (simp; done) | (simp; omega) | (simp at *; omega)))))
    replace FG := Lib.hid (FG.out.on hB (Nat.le_refl _))
    replace F99 := Lib.hid (F99.out.on hB (Nat.le_refl _))
    replace F105 := Lib.hid (F105.out.on hB (Nat.le_refl _))
    replace F111 := Lib.hid (F111.out.on hB (Nat.le_refl _))
    replace F118 := Lib.hid (F118.out.on hB (Nat.le_refl _))
    replace F120 := Lib.hid (F120.out.on hB (Nat.le_refl _))
    replace Fg121 := Lib.hid (Fg121.out.on hB (Nat.le_refl _))
    have Fg122 := Lib.hid fg122
    clear fg122
    replace hlow := hlow.trans (hB.mono hlow.size)
    clear hB hbk
    go_wp2_with fail
    with_reducible refine Calls.mono (key_any _ _ _) ?_
    rintro e wq124 ⟨rfl, hbk⟩
    have hB : Below wq122.heap.size wq122 wq124 := by (repeat (first | (with_reducible assumption) | (with_reducible exact Below.refl _ _) | ((with_reducible refine Below.setCell ?_ ?_ _); rotate_left; · (first | omega | (simp; done) | (simp; omega) | (simp at *; omega))) | ((with_reducible refine Below.alloc ?_ ?_ _); rotate_left; · (first | omega | (simp; done) | (simp; omega) | (simp at *; omega))) | (with_reducible refine Below.drew ?_) | (with_reducible refine below_drewN ?_ _) | ((refine Below.trans ?_ (Below.mono (by with_reducible assumption) ?_)); rotate_left; · (first | omega | (simp; done) | (simp; omega) | (simp at *; omega)))))
    replace FG := Lib.hid (FG.out.on hB (Nat.le_refl _))
    replace F99 := Lib.hid (F99.out.on hB (Nat.le_refl _))
    replace F105 := Lib.hid (F105.out.on hB (Nat.le_refl _))
    replace F111 := Lib.hid (F111.out.on hB (Nat.le_refl _))
    replace F118 := Lib.hid (F118.out.on hB (Nat.le_refl _))
    replace F120 := Lib.hid (F120.out.on hB (Nat.le_refl _))
    replace Fg121 := Lib.hid (Fg121.out.on hB (Nat.le_refl _))
    replace Fg122 := Lib.hid (Fg122.out.on hB (Nat.le_refl _))
    have F123 := Lib.hid (show NdsAt wq124 (.slice (some ⟨wq122.heap.size, 0, none⟩) 2 2) [(leafN 1), (leafN 2)] from lay_n hbk (L := [(⟨.slice (some ⟨g121_1, 0, none⟩) 1 1, .slice (some ⟨g121_2, 0, none⟩) 1 1, .slice none 0 0⟩, (leafN 1)), (⟨.slice (some ⟨g122_1, 0, none⟩) 1 1, .slice (some ⟨g122_2, 0, none⟩) 1 1, .slice none 0 0⟩, (leafN 2))]) (Blk.at_end _ _ _ (by simp)) (by
      intro x hx
      simp only [List.mem_cons, List.not_mem_nil, or_false] at hx
      rcases hx with rfl | rfl
      · exact Fg121.out
      · exact Fg122.out))
    clear Fg121 Fg122
    replace hlow := hlow.trans (hB.mono hlow.size)
    clear hB hbk
    go_wp2_with fail
    with_reducible refine Calls.mono (leaf_any _ _) ?_
    rintro e wq129 ⟨g129_1, g129_2, rfl, fg129, hbk⟩
    have hB : Below wq124.heap.size wq124 wq129 := by (repeat (first | (with_reducible assumption) | (with_reducible exact Below.refl _ _) | ((with_reducible refine Below.setCell ?_ ?_ _); rotate_left; · (first | omega | (simp; done) | (simp; omega) | (simp at *; omega))) | ((with_reducible refine Below.alloc ?_ ?_ _); rotate_left; · (first | omega | (simp; done) | (simp; omega) | (simp at *; omega))) | (with_reducible refine Below.drew ?_) | (with_reducible refine below_drewN ?_ _) | ((refine Below.trans ?_ (Below.mono (by with_reducible assumption) ?_)); rotate_left; · (first | omega | (simp; done) | (simp; omega) | (simp at *; omega)))))
    replace FG := Lib.hid (FG.out.on hB (Nat.le_refl _))
    replace F99 := Lib.hid (F99.out.on hB (Nat.le_refl _))
    replace F105 := Lib.hid (F105.out.on hB (Nat.le_refl _))
    replace F111 := Lib.hid (F111.out.on hB (Nat.le_refl _))
    replace F118 := Lib.hid (F118.out.on hB (Nat.le_refl _))
    replace F120 := Lib.hid (F120.out.on hB (Nat.le_refl _))
    replace F123 := Lib.hid (F123.out.on hB (Nat.le_refl _))
    have F125 := Lib.hid (show KsAt wq129 (.slice (some ⟨wq124.heap.size, 0, none⟩) 1 1) [⟨5, 0⟩] from lay_k hbk (ks := [⟨5, 0⟩]) (((Blk.at_end _ _ _ (by simp)).alloc _).alloc _))
    have F126 := Lib.hid (show IsAt wq129 (.slice (some ⟨wq124.heap.size + 1, 0, none⟩) 1 1) [5] from lay_i hbk (xs := [5]) ((Blk.at_end _ _ _ (by simp)).alloc _))
    have F127 := Lib.hid (show IsAt wq129 (.slice (some ⟨wq124.heap.size + 1 + 1, 0, none⟩) 2 2) [1, 1] from lay_i hbk (xs := [1, 1]) (Blk.at_end _ _ _ (by simp)))
    have Fg129 := Lib.hid fg129
    clear fg129
    replace hlow := hlow.trans (hB.mono hlow.size)
    clear hB hbk
    go_wp2_with fail
    with_reducible refine Calls.mono (key_any _ _ _) ?_
    rintro e wq131 ⟨rfl, hbk⟩
    have hB : Below wq129.heap.size wq129 wq131 := by (repeat (first | (with_reducible assumption) | (with_reducible exact Below.refl _ _) | ((with_reducible refine Below.setCell ?_ ?_ _); rotate_left; · (first | omega | (simp; done) | (simp; omega) | (simp at *; omega))) | ((with_reducible refine Below.alloc ?_ ?_ _); rotate_left; · (first | omega | (simp; done) | (simp; omega) | (simp at *; omega))) | (with_reducible refine Below.drew ?_) | (with_reducible refine below_drewN ?_ _) | ((refine Below.trans ?_ (Below.mono (by with_reducible assumption) ?_)); rotate_left; · (first | omega | (simp; done) | (simp; omega) | (simp at *; omega)))))
    replace FG := Lib.hid (FG.out.on hB (Nat.le_refl _))
    replace F99 := Lib.hid (F99.out.on hB (Nat.le_refl _))
    replace F105 := Lib.hid (F105.out.on hB (Nat.le_refl _))
    replace F111 := Lib.hid (F111.out.on hB (Nat.le_refl _))
    replace F118 := Lib.hid (F118.out.on hB (Nat.le_refl _))
    replace F120 := Lib.hid (F120.out.on hB (Nat.le_refl _))
    replace F123 := Lib.hid (F123.out.on hB (Nat.le_refl _))
    replace F125 := Lib.hid (F125.out.on hB (Nat.le_refl _))
    replace F126 := Lib.hid (F126.out.on hB (Nat.le_refl _))
    replace F127 := Lib.hid (F127.out.on hB (Nat.le_refl _))
    replace Fg129 := Lib.hid (Fg129.out.on hB (Nat.le_refl _))
    have F130 := Lib.hid (show NdsAt wq131 (.slice (some ⟨wq129.heap.size, 0, none⟩) 2 2) [⟨[⟨5, 0⟩], [5], [1, 1]⟩, (leafN 3)] from lay_n hbk (L := [(⟨.slice (some ⟨wq124.heap.size, 0, none⟩) 1 1, .slice (some ⟨wq124.heap.size + 1, 0, none⟩) 1 1, .slice (some ⟨wq124.heap.size + 1 + 1, 0, none⟩) 2 2⟩, ⟨[⟨5, 0⟩], [5], [1, 1]⟩), (⟨.slice (some ⟨g129_1, 0, none⟩) 1 1, .slice (some ⟨g129_2, 0, none⟩) 1 1, .slice none 0 0⟩, (leafN 3))]) (Blk.at_end _ _ _ (by simp)) (by
      intro x hx
      simp only [List.mem_cons, List.not_mem_nil, or_false] at hx
      rcases hx with rfl | rfl
      · exact ⟨F125.out, F126.out, F127.out⟩
      · exact Fg129.out))
    clear F125 F126 F127 Fg129
    replace hlow := hlow.trans (hB.mono hlow.size)
    clear hB hbk
    go_wp2_with fail
    with_reducible refine Calls.mono (leaf_any _ _) ?_
    rintro e wq136 ⟨g136_1, g136_2, rfl, fg136, hbk⟩
    have hB : Below wq131.heap.size wq131 wq136 := by (repeat (first | (with_reducible assumption) | (with_reducible exact Below.refl _ _) | ((with_reducible refine Below.setCell ?_ ?_ _); rotate_left; · (first | omega | (simp; done) | (simp; omega) | (simp at *; omega))) | ((with_reducible refine Below.alloc ?_ ?_ _); rotate_left; · (first | omega | (simp; done) | (simp; omega) | (simp at *; omega))) | (with_reducible refine Below.drew ?_) | (with_reducible refine below_drewN ?_ _) | ((refine Below.trans ?_ (Below.mono (by with_reducible assumption) ?_)); rotate_left; · (first | omega | (simp; done) | (simp; omega) | (simp at *; omega)))))
    replace FG := Lib.hid (FG.out.on hB (Nat.le_refl _))
    replace F99 := Lib.hid (F99.out.on hB (Nat.le_refl _))
    replace F105 := Lib.hid (F105.out.on hB (Nat.le_refl _))
    replace F111 := Lib.hid (F111.out.on hB (Nat.le_refl _))
    replace F118 := Lib.hid (F118.out.on hB (Nat.le_refl _))
    replace F120 := Lib.hid (F120.out.on hB (Nat.le_refl _))
    replace F123 := Lib.hid (F123.out.on hB (Nat.le_refl _))
    replace F130 := Lib.hid (F130.out.on hB (Nat.le_refl _))
    have F132 := Lib.hid (show KsAt wq136 (.slice (some ⟨wq131.heap.size, 0, none⟩) 1 1) [⟨5, 0⟩] from lay_k hbk (ks := [⟨5, 0⟩]) (((Blk.at_end _ _ _ (by simp)).alloc _).alloc _))
    have F133 := Lib.hid (show IsAt wq136 (.slice (some ⟨wq131.heap.size + 1, 0, none⟩) 1 1) [5] from lay_i hbk (xs := [5]) ((Blk.at_end _ _ _ (by simp)).alloc _))
    have F134 := Lib.hid (show IsAt wq136 (.slice (some ⟨wq131.heap.size + 1 + 1, 0, none⟩) 2 2) [1, 2] from lay_i hbk (xs := [1, 2]) (Blk.at_end _ _ _ (by simp)))
    have Fg136 := Lib.hid fg136
    clear fg136
    replace hlow := hlow.trans (hB.mono hlow.size)
    clear hB hbk
    go_wp2_with fail
    with_reducible refine Calls.mono (leaf_any _ _) ?_
    rintro e wq137 ⟨g137_1, g137_2, rfl, fg137, hbk⟩
    have hB : Below wq136.heap.size wq136 wq137 := by (repeat (first | (with_reducible assumption) | (with_reducible exact Below.refl _ _) | ((with_reducible refine Below.setCell ?_ ?_ _); rotate_left; · (first | omega | (simp; done) | (simp; omega) | (simp at *; omega))) | ((with_reducible refine Below.alloc ?_ ?_ _); rotate_left; · (first | omega | (simp; done) | (simp; omega) | (simp at *; omega))) | (with_reducible refine Below.drew ?_) | (with_reducible refine below_drewN ?_ _) | ((refine Below.trans ?_ (Below.mono (by with_reducible assumption) ?_)); rotate_left; · (first | omega | (simp; done) | (simp; omega) | (simp at *; omega)))))
    replace FG := Lib.hid (FG.out.on hB (Nat.le_refl _))
    replace F99 := Lib.hid (F99.out.on hB (Nat.le_refl _))
    replace F105 := Lib.hid (F105.out.on hB (Nat.le_refl _))
    replace F111 := Lib.hid (F111.out.on hB (Nat.le_refl _))
    replace F118 := Lib.hid (F118.out.on hB (Nat.le_refl _))
    replace F120 := Lib.hid (F120.out.on hB (Nat.le_refl _))
    replace F123 := Lib.hid (F123.out.on hB (Nat.le_refl _))
    replace F130 := Lib.hid (F130.out.on hB (Nat.le_refl _))
    replace F132 := Lib.hid (F132.out.on hB (Nat.le_refl _))
    replace F133 := Lib.hid (F133.out.on hB (Nat.le_refl _))
    replace F134 := Lib.hid (F134.out.on hB (Nat.le_refl _))
    replace Fg136 := Lib.hid (Fg136.out.on hB (Nat.le_refl _))
    have Fg137 := Lib.hid fg137
    clear fg137
    replace hlow := hlow.trans (hB.mono hlow.size)
    clear hB hbk
    go_wp2_with fail
    with_reducible refine Calls.mono (key_any _ _ _) ?_
    rintro e wq139 ⟨rfl, hbk⟩
    have hB : Below wq137.heap.size wq137 wq139 := by (repeat (first | (with_reducible assumption) | (with_reducible exact Below.refl _ _) | ((with_reducible refine Below.setCell ?_ ?_ _); rotate_left; · (first | omega | (simp; done) | (simp; omega) | (simp at *; omega))) | ((with_reducible refine Below.alloc ?_ ?_ _); rotate_left; · (first | omega | (simp; done) | (simp; omega) | (simp at *; omega))) | (with_reducible refine Below.drew ?_) | (with_reducible refine below_drewN ?_ _) | ((refine Below.trans ?_ (Below.mono (by with_reducible assumption) ?_)); rotate_left; · (first | omega | (simp; done) | (simp; omega) | (simp at *; omega)))))
    replace FG := Lib.hid (FG.out.on hB (Nat.le_refl _))
    replace F99 := Lib.hid (F99.out.on hB (Nat.le_refl _))
    replace F105 := Lib.hid (F105.out.on hB (Nat.le_refl _))
    replace F111 := Lib.hid (F111.out.on hB (Nat.le_refl _))
    replace F118 := Lib.hid (F118.out.on hB (Nat.le_refl _))
    replace F120 := Lib.hid (F120.out.on hB (Nat.le_refl _))
    replace F123 := Lib.hid (F123.out.on hB (Nat.le_refl _))
    replace F130 := Lib.hid (F130.out.on hB (Nat.le_refl _))
    replace F132 := Lib.hid (F132.out.on hB (Nat.le_refl _))
    replace F133 := Lib.hid (F133.out.on hB (Nat.le_refl _))
    replace F134 := Lib.hid (F134.out.on hB (Nat.le_refl _))
    replace Fg136 := Lib.hid (Fg136.out.on hB (Nat.le_refl _))
    replace Fg137 := Lib.hid (Fg137.out.on hB (Nat.le_refl _))
    have F138 := Lib.hid (show NdsAt wq139 (.slice (some ⟨wq137.heap.size, 0, none⟩) 3 3) [⟨[⟨5, 0⟩], [5], [1, 2]⟩, (leafN 7), (leafN 3)] from lay_n hbk (L := [(⟨.slice (some ⟨wq131.heap.size, 0, none⟩) 1 1, .slice (some ⟨wq131.heap.size + 1, 0, none⟩) 1 1, .slice (some ⟨wq131.heap.size + 1 + 1, 0, none⟩) 2 2⟩, ⟨[⟨5, 0⟩], [5], [1, 2]⟩), (⟨.slice (some ⟨g136_1, 0, none⟩) 1 1, .slice (some ⟨g136_2, 0, none⟩) 1 1, .slice none 0 0⟩, (leafN 7)), (⟨.slice (some ⟨g137_1, 0, none⟩) 1 1, .slice (some ⟨g137_2, 0, none⟩) 1 1, .slice none 0 0⟩, (leafN 3))]) (Blk.at_end _ _ _ (by simp)) (by
      intro x hx
      simp only [List.mem_cons, List.not_mem_nil, or_false] at hx
      rcases hx with rfl | rfl | rfl
      · exact ⟨F132.out, F133.out, F134.out⟩
      · exact Fg136.out
      · exact Fg137.out))
    clear F132 F133 F134 Fg136 Fg137
    replace hlow := hlow.trans (hB.mono hlow.size)
    clear hB hbk
    go_wp2_with fail
    with_reducible refine Calls.mono (leaf_any _ _) ?_
    rintro e wq144 ⟨g144_1, g144_2, rfl, fg144, hbk⟩
    have hB : Below wq139.heap.size wq139 wq144 := by (repeat (first | (with_reducible assumption) | (with_reducible exact Below.refl _ _) | ((with_reducible refine Below.setCell ?_ ?_ _); rotate_left; · (first | omega | (simp; done) | (simp; omega) | (simp at *; omega))) | ((with_reducible refine Below.alloc ?_ ?_ _); rotate_left; · (first | omega | (simp; done) | (simp; omega) | (simp at *; omega))) | (with_reducible refine Below.drew ?_) | (with_reducible refine below_drewN ?_ _) | ((refine Below.trans ?_ (Below.mono (by with_reducible assumption) ?_)); rotate_left; · (first | omega | (simp; done) | (simp; omega) | (simp at *; omega)))))
    replace FG := Lib.hid (FG.out.on hB (Nat.le_refl _))
    replace F99 := Lib.hid (F99.out.on hB (Nat.le_refl _))
    replace F105 := Lib.hid (F105.out.on hB (Nat.le_refl _))
    replace F111 := Lib.hid (F111.out.on hB (Nat.le_refl _))
    replace F118 := Lib.hid (F118.out.on hB (Nat.le_refl _))
    replace F120 := Lib.hid (F120.out.on hB (Nat.le_refl _))
    replace F123 := Lib.hid (F123.out.on hB (Nat.le_refl _))
    replace F130 := Lib.hid (F130.out.on hB (Nat.le_refl _))
    replace F138 := Lib.hid (F138.out.on hB (Nat.le_refl _))
    have F140 := Lib.hid (show KsAt wq144 (.slice (some ⟨wq139.heap.size, 0, none⟩) 1 1) [⟨5, 0⟩] from lay_k hbk (ks := [⟨5, 0⟩]) (((Blk.at_end _ _ _ (by simp)).alloc _).alloc _))
    have F141 := Lib.hid (show IsAt wq144 (.slice (some ⟨wq139.heap.size + 1, 0, none⟩) 1 1) [5] from lay_i hbk (xs := [5]) ((Blk.at_end _ _ _ (by simp)).alloc _))
    have F142 := Lib.hid (show IsAt wq144 (.slice (some ⟨wq139.heap.size + 1 + 1, 0, none⟩) 2 2) [1, 3] from lay_i hbk (xs := [1, 3]) (Blk.at_end _ _ _ (by simp)))
    have Fg144 := Lib.hid fg144
    clear fg144
    replace hlow := hlow.trans (hB.mono hlow.size)
    clear hB hbk
    go_wp2_with fail
    with_reducible refine Calls.mono (leaf_any _ _) ?_
    rintro e wq145 ⟨g145_1, g145_2, rfl, fg145, hbk⟩
    have hB : Below wq144.heap.size wq144 wq145 := by (repeat (first | (with_reducible assumption) | (with_reducible exact Below.refl _ _) | ((with_reducible refine Below.setCell ?_ ?_ _); rotate_left; · (first | omega | (simp; done) | (simp; omega) | (simp at *; omega))) | ((with_reducible refine Below.alloc ?_ ?_ _); rotate_left; · (first | omega | (simp; done) | (simp; omega) | (simp at *; omega))) | (with_reducible refine Below.drew ?_) | (with_reducible refine below_drewN ?_ _) | ((refine Below.trans ?_ (Below.mono (by with_reducible assumption) ?_)); rotate_left; · (first | omega | (simp; done) | (simp; omega) | (simp at *; omega)))))
    replace FG := Lib.hid (FG.out.on hB (Nat.le_refl _))
    replace F99 := Lib.hid (F99.out.on hB (Nat.le_refl _))
    replace F105 := Lib.hid (F105.out.on hB (Nat.le_refl _))
    replace F111 := Lib.hid (F111.out.on hB (Nat.le_refl _))
    replace F118 := Lib.hid (F118.out.on hB (Nat.le_refl _))
    replace F120 := Lib.hid (F120.out.on hB (Nat.le_refl _))
    replace F123 := Lib.hid (F123.out.on hB (Nat.le_refl _))
    replace F130 := Lib.hid (F130.out.on hB (Nat.le_refl _))
    replace F138 := Lib.hid (F138.out.on hB (Nat.le_refl _))
    replace F140 := Lib.hid (F140.out.on hB (Nat.le_refl _))
    replace F141 := Lib.hid (F141.out.on hB (Nat.le_refl _))
    replace F142 := Lib.hid (F142.out.on hB (Nat.le_refl _))
    replace Fg144 := Lib.hid (Fg144.out.on hB (Nat.le_refl _))
    have Fg145 := Lib.hid fg145
    clear fg145
    replace hlow := hlow.trans (hB.mono hlow.size)
    clear hB hbk
    go_wp2_with fail
    with_reducible refine Calls.mono (key_any _ _ _) ?_
    rintro e wq147 ⟨rfl, hbk⟩
    have hB : Below wq145.heap.size wq145 wq147 := by (repeat (first | (with_reducible assumption) | (with_reducible exact Below.refl _ _) | ((with_reducible refine Below.setCell ?_ ?_ _); rotate_left; · (first | omega | (simp; done) | (simp; omega) | (simp at *; omega))) | ((with_reducible refine Below.alloc ?_ ?_ _); rotate_left; · (first | omega | (simp; done) | (simp; omega) | (simp at *; omega))) | (with_reducible refine Below.drew ?_) | (with_reducible refine below_drewN ?_ _) | ((refine Below.trans ?_ (Below.mono (by with_reducible assumption) ?_)); rotate_left; · (first | omega | (simp; done) | (simp; omega) | (simp at *; omega)))))
    replace FG := Lib.hid (FG.out.on hB (Nat.le_refl _))
    replace F99 := Lib.hid (F99.out.on hB (Nat.le_refl _))
    replace F105 := Lib.hid (F105.out.on hB (Nat.le_refl _))
    replace F111 := Lib.hid (F111.out.on hB (Nat.le_refl _))
    replace F118 := Lib.hid (F118.out.on hB (Nat.le_refl _))
    replace F120 := Lib.hid (F120.out.on hB (Nat.le_refl _))
    replace F123 := Lib.hid (F123.out.on hB (Nat.le_refl _))
    replace F130 := Lib.hid (F130.out.on hB (Nat.le_refl _))
    replace F138 := Lib.hid (F138.out.on hB (Nat.le_refl _))
    replace F140 := Lib.hid (F140.out.on hB (Nat.le_refl _))
    replace F141 := Lib.hid (F141.out.on hB (Nat.le_refl _))
    replace F142 := Lib.hid (F142.out.on hB (Nat.le_refl _))
    replace Fg144 := Lib.hid (Fg144.out.on hB (Nat.le_refl _))
    replace Fg145 := Lib.hid (Fg145.out.on hB (Nat.le_refl _))
    have F146 := Lib.hid (show NdsAt wq147 (.slice (some ⟨wq145.heap.size, 0, none⟩) 3 3) [⟨[⟨5, 0⟩], [5], [1, 3]⟩, (leafN 3), (leafN 7)] from lay_n hbk (L := [(⟨.slice (some ⟨wq139.heap.size, 0, none⟩) 1 1, .slice (some ⟨wq139.heap.size + 1, 0, none⟩) 1 1, .slice (some ⟨wq139.heap.size + 1 + 1, 0, none⟩) 2 2⟩, ⟨[⟨5, 0⟩], [5], [1, 3]⟩), (⟨.slice (some ⟨g144_1, 0, none⟩) 1 1, .slice (some ⟨g144_2, 0, none⟩) 1 1, .slice none 0 0⟩, (leafN 3)), (⟨.slice (some ⟨g145_1, 0, none⟩) 1 1, .slice (some ⟨g145_2, 0, none⟩) 1 1, .slice none 0 0⟩, (leafN 7))]) (Blk.at_end _ _ _ (by simp)) (by
      intro x hx
      simp only [List.mem_cons, List.not_mem_nil, or_false] at hx
      rcases hx with rfl | rfl | rfl
      · exact ⟨F140.out, F141.out, F142.out⟩
      · exact Fg144.out
      · exact Fg145.out))
    clear F140 F141 F142 Fg144 Fg145
    replace hlow := hlow.trans (hB.mono hlow.size)
    clear hB hbk
    go_wp2_with fail
    with_reducible refine Calls.mono (leaf_any _ _) ?_
    rintro e wq152 ⟨g152_1, g152_2, rfl, fg152, hbk⟩
    have hB : Below wq147.heap.size wq147 wq152 := by (repeat (first | (with_reducible assumption) | (with_reducible exact Below.refl _ _) | ((with_reducible refine Below.setCell ?_ ?_ _); rotate_left; · (first | omega | (simp; done) | (simp; omega) | (simp at *; omega))) | ((with_reducible refine Below.alloc ?_ ?_ _); rotate_left; · (first | omega | (simp; done) | (simp; omega) | (simp at *; omega))) | (with_reducible refine Below.drew ?_) | (with_reducible refine below_drewN ?_ _) | ((refine Below.trans ?_ (Below.mono (by with_reducible assumption) ?_)); rotate_left; · (first | omega | (simp; done) | (simp; omega) | (simp at *; omega)))))
    replace FG := Lib.hid (FG.out.on hB (Nat.le_refl _))
    replace F99 := Lib.hid (F99.out.on hB (Nat.le_refl _))
    replace F105 := Lib.hid (F105.out.on hB (Nat.le_refl _))
    replace F111 := Lib.hid (F111.out.on hB (Nat.le_refl _))
    replace F118 := Lib.hid (F118.out.on hB (Nat.le_refl _))
    replace F120 := Lib.hid (F120.out.on hB (Nat.le_refl _))
    replace F123 := Lib.hid (F123.out.on hB (Nat.le_refl _))
    replace F130 := Lib.hid (F130.out.on hB (Nat.le_refl _))
    replace F138 := Lib.hid (F138.out.on hB (Nat.le_refl _))
    replace F146 := Lib.hid (F146.out.on hB (Nat.le_refl _))
    have F148 := Lib.hid (show KsAt wq152 (.slice (some ⟨wq147.heap.size, 0, none⟩) 1 1) [⟨5, 0⟩] from lay_k hbk (ks := [⟨5, 0⟩]) (((Blk.at_end _ _ _ (by simp)).alloc _).alloc _))
    have F149 := Lib.hid (show IsAt wq152 (.slice (some ⟨wq147.heap.size + 1, 0, none⟩) 1 1) [5] from lay_i hbk (xs := [5]) ((Blk.at_end _ _ _ (by simp)).alloc _))
    have F150 := Lib.hid (show IsAt wq152 (.slice (some ⟨wq147.heap.size + 1 + 1, 0, none⟩) 2 2) [1, -1] from lay_i hbk (xs := [1, -1]) (Blk.at_end _ _ _ (by simp)))
    have Fg152 := Lib.hid fg152
    clear fg152
    replace hlow := hlow.trans (hB.mono hlow.size)
    clear hB hbk
    go_wp2_with fail
    with_reducible refine Calls.mono (key_any _ _ _) ?_
    rintro e wq154 ⟨rfl, hbk⟩
    have hB : Below wq152.heap.size wq152 wq154 := by (repeat (first | (with_reducible assumption) | (with_reducible exact Below.refl _ _) | ((with_reducible refine Below.setCell ?_ ?_ _); rotate_left; · (first | omega | (simp; done) | (simp; omega) | (simp at *; omega))) | ((with_reducible refine Below.alloc ?_ ?_ _); rotate_left; · (first | omega | (simp; done) | (simp; omega) | (simp at *; omega))) | (with_reducible refine Below.drew ?_) | (with_reducible refine below_drewN ?_ _) | ((refine Below.trans ?_ (Below.mono (by with_reducible assumption) ?_)); rotate_left; · (first | omega | (simp; done) | (simp; omega) | (simp at *; omega)))))
    replace FG := Lib.hid (FG.out.on hB (Nat.le_refl _))
    replace F99 := Lib.hid (F99.out.on hB (Nat.le_refl _))
    replace F105 := Lib.hid (F105.out.on hB (Nat.le_refl _))
    replace F111 := Lib.hid (F111.out.on hB (Nat.le_refl _))
    replace F118 := Lib.hid (F118.out.on hB (Nat.le_refl _))
    replace F120 := Lib.hid (F120.out.on hB (Nat.le_refl _))
    replace F123 := Lib.hid (F123.out.on hB (Nat.le_refl _))
    replace F130 := Lib.hid (F130.out.on hB (Nat.le_refl _))
    replace F138 := Lib.hid (F138.out.on hB (Nat.le_refl _))
    replace F146 := Lib.hid (F146.out.on hB (Nat.le_refl _))
    replace F148 := Lib.hid (F148.out.on hB (Nat.le_refl _))
    replace F149 := Lib.hid (F149.out.on hB (Nat.le_refl _))
    replace F150 := Lib.hid (F150.out.on hB (Nat.le_refl _))
    replace Fg152 := Lib.hid (Fg152.out.on hB (Nat.le_refl _))
    have F153 := Lib.hid (show NdsAt wq154 (.slice (some ⟨wq152.heap.size, 0, none⟩) 2 2) [⟨[⟨5, 0⟩], [5], [1, -1]⟩, (leafN 3)] from lay_n hbk (L := [(⟨.slice (some ⟨wq147.heap.size, 0, none⟩) 1 1, .slice (some ⟨wq147.heap.size + 1, 0, none⟩) 1 1, .slice (some ⟨wq147.heap.size + 1 + 1, 0, none⟩) 2 2⟩, ⟨[⟨5, 0⟩], [5], [1, -1]⟩), (⟨.slice (some ⟨g152_1, 0, none⟩) 1 1, .slice (some ⟨g152_2, 0, none⟩) 1 1, .slice none 0 0⟩, (leafN 3))]) (Blk.at_end _ _ _ (by simp)) (by
      intro x hx
      simp only [List.mem_cons, List.not_mem_nil, or_false] at hx
      rcases hx with rfl | rfl
      · exact ⟨F148.out, F149.out, F150.out⟩
      · exact Fg152.out))
    clear F148 F149 F150 Fg152
    replace hlow := hlow.trans (hB.mono hlow.size)
    clear hB hbk
    go_wp2_with fail
    with_reducible refine Calls.mono (leaf_any _ _) ?_
    rintro e wq159 ⟨g159_1, g159_2, rfl, fg159, hbk⟩
    have hB : Below wq154.heap.size wq154 wq159 := by (repeat (first | (with_reducible assumption) | (with_reducible exact Below.refl _ _) | ((with_reducible refine Below.setCell ?_ ?_ _); rotate_left; · (first | omega | (simp; done) | (simp; omega) | (simp at *; omega))) | ((with_reducible refine Below.alloc ?_ ?_ _); rotate_left; · (first | omega | (simp; done) | (simp; omega) | (simp at *; omega))) | (with_reducible refine Below.drew ?_) | (with_reducible refine below_drewN ?_ _) | ((refine Below.trans ?_ (Below.mono (by with_reducible assumption) ?_)); rotate_left; · (first | omega | (simp; done) | (simp; omega) | (simp at *; omega)))))
    replace FG := Lib.hid (FG.out.on hB (Nat.le_refl _))
    replace F99 := Lib.hid (F99.out.on hB (Nat.le_refl _))
    replace F105 := Lib.hid (F105.out.on hB (Nat.le_refl _))
    replace F111 := Lib.hid (F111.out.on hB (Nat.le_refl _))
    replace F118 := Lib.hid (F118.out.on hB (Nat.le_refl _))
    replace F120 := Lib.hid (F120.out.on hB (Nat.le_refl _))
    replace F123 := Lib.hid (F123.out.on hB (Nat.le_refl _))
    replace F130 := Lib.hid (F130.out.on hB (Nat.le_refl _))
    replace F138 := Lib.hid (F138.out.on hB (Nat.le_refl _))
    replace F146 := Lib.hid (F146.out.on hB (Nat.le_refl _))
    replace F153 := Lib.hid (F153.out.on hB (Nat.le_refl _))
    have F155 := Lib.hid (show KsAt wq159 (.slice (some ⟨wq154.heap.size, 0, none⟩) 1 1) [⟨5, 0⟩] from lay_k hbk (ks := [⟨5, 0⟩]) (((Blk.at_end _ _ _ (by simp)).alloc _).alloc _))
    have F156 := Lib.hid (show IsAt wq159 (.slice (some ⟨wq154.heap.size + 1, 0, none⟩) 1 1) [5] from lay_i hbk (xs := [5]) ((Blk.at_end _ _ _ (by simp)).alloc _))
    have F157 := Lib.hid (show IsAt wq159 (.slice (some ⟨wq154.heap.size + 1 + 1, 0, none⟩) 2 2) [1, 2] from lay_i hbk (xs := [1, 2]) (Blk.at_end _ _ _ (by simp)))
    have Fg159 := Lib.hid fg159
    clear fg159
    replace hlow := hlow.trans (hB.mono hlow.size)
    clear hB hbk
    go_wp2_with fail
    with_reducible refine Calls.mono (key_any _ _ _) ?_
    rintro e wq160 ⟨rfl, hbk⟩
    have hB : Below wq159.heap.size wq159 wq160 := by (repeat (first | (with_reducible assumption) | (with_reducible exact Below.refl _ _) | ((with_reducible refine Below.setCell ?_ ?_ _); rotate_left; · (first | omega | (simp; done) | (simp; omega) | (simp at *; omega))) | ((with_reducible refine Below.alloc ?_ ?_ _); rotate_left; · (first | omega | (simp; done) | (simp; omega) | (simp at *; omega))) | (with_reducible refine Below.drew ?_) | (with_reducible refine below_drewN ?_ _) | ((refine Below.trans ?_ (Below.mono (by with_reducible assumption) ?_)); rotate_left; · (first | omega | (simp; done) | (simp; omega) | (simp at *; omega)))))
    replace FG := Lib.hid (FG.out.on hB (Nat.le_refl _))
    replace F99 := Lib.hid (F99.out.on hB (Nat.le_refl _))
    replace F105 := Lib.hid (F105.out.on hB (Nat.le_refl _))
    replace F111 := Lib.hid (F111.out.on hB (Nat.le_refl _))
    replace F118 := Lib.hid (F118.out.on hB (Nat.le_refl _))
    replace F120 := Lib.hid (F120.out.on hB (Nat.le_refl _))
    replace F123 := Lib.hid (F123.out.on hB (Nat.le_refl _))
    replace F130 := Lib.hid (F130.out.on hB (Nat.le_refl _))
    replace F138 := Lib.hid (F138.out.on hB (Nat.le_refl _))
    replace F146 := Lib.hid (F146.out.on hB (Nat.le_refl _))
    replace F153 := Lib.hid (F153.out.on hB (Nat.le_refl _))
    replace F155 := Lib.hid (F155.out.on hB (Nat.le_refl _))
    replace F156 := Lib.hid (F156.out.on hB (Nat.le_refl _))
    replace F157 := Lib.hid (F157.out.on hB (Nat.le_refl _))
    replace Fg159 := Lib.hid (Fg159.out.on hB (Nat.le_refl _))
    replace hlow := hlow.trans (hB.mono hlow.size)
    clear hB hbk
    go_wp2_with fail
    with_reducible refine Calls.mono (leaf_any _ _) ?_
    rintro e wq165 ⟨g165_1, g165_2, rfl, fg165, hbk⟩
    have hB : Below wq160.heap.size wq160 wq165 := by (repeat (first | (with_reducible assumption) | (with_reducible exact Below.refl _ _) | ((with_reducible refine Below.setCell ?_ ?_ _); rotate_left; · (first | omega | (simp; done) | (simp; omega) | (simp at *; omega))) | ((with_reducible refine Below.alloc ?_ ?_ _); rotate_left; · (first | omega | (simp; done) | (simp; omega) | (simp at *; omega))) | (with_reducible refine Below.drew ?_) | (with_reducible refine below_drewN ?_ _) | ((refine Below.trans ?_ (Below.mono (by with_reducible assumption) ?_)); rotate_left; · (first | omega | (simp; done) | (simp; omega) | (simp at *; omega)))))
    replace FG := Lib.hid (FG.out.on hB (Nat.le_refl _))
    replace F99 := Lib.hid (F99.out.on hB (Nat.le_refl _))
    replace F105 := Lib.hid (F105.out.on hB (Nat.le_refl _))
    replace F111 := Lib.hid (F111.out.on hB (Nat.le_refl _))
    replace F118 := Lib.hid (F118.out.on hB (Nat.le_refl _))
    replace F120 := Lib.hid (F120.out.on hB (Nat.le_refl _))
    replace F123 := Lib.hid (F123.out.on hB (Nat.le_refl _))
    replace F130 := Lib.hid (F130.out.on hB (Nat.le_refl _))
    replace F138 := Lib.hid (F138.out.on hB (Nat.le_refl _))
    replace F146 := Lib.hid (F146.out.on hB (Nat.le_refl _))
    replace F153 := Lib.hid (F153.out.on hB (Nat.le_refl _))
    replace F155 := Lib.hid (F155.out.on hB (Nat.le_refl _))
    replace F156 := Lib.hid (F156.out.on hB (Nat.le_refl _))
    replace F157 := Lib.hid (F157.out.on hB (Nat.le_refl _))
    replace Fg159 := Lib.hid (Fg159.out.on hB (Nat.le_refl _))
    have F161 := Lib.hid (show KsAt wq165 (.slice (some ⟨wq160.heap.size, 0, none⟩) 1 1) [⟨7, 0⟩] from lay_k hbk (ks := [⟨7, 0⟩]) (((Blk.at_end _ _ _ (by simp)).alloc _).alloc _))
    have F162 := Lib.hid (show IsAt wq165 (.slice (some ⟨wq160.heap.size + 1, 0, none⟩) 1 1) [7] from lay_i hbk (xs := [7]) ((Blk.at_end _ _ _ (by simp)).alloc _))
    have F163 := Lib.hid (show IsAt wq165 (.slice (some ⟨wq160.heap.size + 1 + 1, 0, none⟩) 2 2) [3, 4] from lay_i hbk (xs := [3, 4]) (Blk.at_end _ _ _ (by simp)))
    have Fg165 := Lib.hid fg165
    clear fg165
    replace hlow := hlow.trans (hB.mono hlow.size)
    clear hB hbk
    go_wp2_with fail
    with_reducible refine Calls.mono (leaf_any _ _) ?_
    rintro e wq166 ⟨g166_1, g166_2, rfl, fg166, hbk⟩
    have hB : Below wq165.heap.size wq165 wq166 := by (repeat (first | (with_reducible assumption) | (with_reducible exact Below.refl _ _) | ((with_reducible refine Below.setCell ?_ ?_ _); rotate_left; · (first | omega | (simp; done) | (simp; omega) | (simp at *; omega))) | ((with_reducible refine Below.alloc ?_ ?_ _); rotate_left; · (first | omega | (simp; done) | (simp; omega) | (simp at *; omega))) | (with_reducible refine Below.drew ?_) | (with_reducible refine below_drewN ?_ _) | ((refine Below.trans ?_ (Below.mono (by with_reducible assumption) ?_)); rotate_left; · (first | omega | (simp; done) | (simp; omega) | (simp at *; omega)))))
    replace FG := Lib.hid (FG.out.on hB (Nat.le_refl _))
    replace F99 := Lib.hid (F99.out.on hB (Nat.le_refl _))
    replace F105 := Lib.hid (F105.out.on hB (Nat.le_refl _))
    replace F111 := Lib.hid (F111.out.on hB (Nat.le_refl _))
    replace F118 := Lib.hid (F118.out.on hB (Nat.le_refl _))
    replace F120 := Lib.hid (F120.out.on hB (Nat.le_refl _))
    replace F123 := Lib.hid (F123.out.on hB (Nat.le_refl _))
    replace F130 := Lib.hid (F130.out.on hB (Nat.le_refl _))
    replace F138 := Lib.hid (F138.out.on hB (Nat.le_refl _))
    replace F146 := Lib.hid (F146.out.on hB (Nat.le_refl _))
    replace F153 := Lib.hid (F153.out.on hB (Nat.le_refl _))
    replace F155 := Lib.hid (F155.out.on hB (Nat.le_refl _))
    replace F156 := Lib.hid (F156.out.on hB (Nat.le_refl _))
    replace F157 := Lib.hid (F157.out.on hB (Nat.le_refl _))
    replace Fg159 := Lib.hid (Fg159.out.on hB (Nat.le_refl _))
    replace F161 := Lib.hid (F161.out.on hB (Nat.le_refl _))
    replace F162 := Lib.hid (F162.out.on hB (Nat.le_refl _))
    replace F163 := Lib.hid (F163.out.on hB (Nat.le_refl _))
    replace Fg165 := Lib.hid (Fg165.out.on hB (Nat.le_refl _))
    have Fg166 := Lib.hid fg166
    clear fg166
    replace hlow := hlow.trans (hB.mono hlow.size)
    clear hB hbk
    go_wp2_with fail
    with_reducible refine Calls.mono (key_any _ _ _) ?_
    rintro e wq168 ⟨rfl, hbk⟩
    have hB : Below wq166.heap.size wq166 wq168 := by (repeat (first | (with_reducible assumption) | (with_reducible exact Below.refl _ _) | ((with_reducible refine Below.setCell ?_ ?_ _); rotate_left; · (first | omega | (simp; done) | (simp; omega) | (simp at *; omega))) | ((with_reducible refine Below.alloc ?_ ?_ _); rotate_left; · (first | omega | (simp; done) | (simp; omega) | (simp at *; omega))) | (with_reducible refine Below.drew ?_) | (with_reducible refine below_drewN ?_ _) | ((refine Below.trans ?_ (Below.mono (by with_reducible assumption) ?_)); rotate_left; · (first | omega | (simp; done) | (simp; omega) | (simp at *; omega)))))
    replace FG := Lib.hid (FG.out.on hB (Nat.le_refl _))
    replace F99 := Lib.hid (F99.out.on hB (Nat.le_refl _))
    replace F105 := Lib.hid (F105.out.on hB (Nat.le_refl _))
    replace F111 := Lib.hid (F111.out.on hB (Nat.le_refl _))
    replace F118 := Lib.hid (F118.out.on hB (Nat.le_refl _))
    replace F120 := Lib.hid (F120.out.on hB (Nat.le_refl _))
    replace F123 := Lib.hid (F123.out.on hB (Nat.le_refl _))
    replace F130 := Lib.hid (F130.out.on hB (Nat.le_refl _))
    replace F138 := Lib.hid (F138.out.on hB (Nat.le_refl _))
    replace F146 := Lib.hid (F146.out.on hB (Nat.le_refl _))
    replace F153 := Lib.hid (F153.out.on hB (Nat.le_refl _))
    replace F155 := Lib.hid (F155.out.on hB (Nat.le_refl _))
    replace F156 := Lib.hid (F156.out.on hB (Nat.le_refl _))
    replace F157 := Lib.hid (F157.out.on hB (Nat.le_refl _))
    replace Fg159 := Lib.hid (Fg159.out.on hB (Nat.le_refl _))
    replace F161 := Lib.hid (F161.out.on hB (Nat.le_refl _))
    replace F162 := Lib.hid (F162.out.on hB (Nat.le_refl _))
    replace F163 := Lib.hid (F163.out.on hB (Nat.le_refl _))
    replace Fg165 := Lib.hid (Fg165.out.on hB (Nat.le_refl _))
    replace Fg166 := Lib.hid (Fg166.out.on hB (Nat.le_refl _))
    have F167 := Lib.hid (show NdsAt wq168 (.slice (some ⟨wq166.heap.size, 0, none⟩) 5 5) [⟨[⟨5, 0⟩], [5], [1, 2]⟩, (leafN 3), ⟨[⟨7, 0⟩], [7], [3, 4]⟩, (leafN 6), (leafN 8)] from lay_n hbk (L := [(⟨.slice (some ⟨wq154.heap.size, 0, none⟩) 1 1, .slice (some ⟨wq154.heap.size + 1, 0, none⟩) 1 1, .slice (some ⟨wq154.heap.size + 1 + 1, 0, none⟩) 2 2⟩, ⟨[⟨5, 0⟩], [5], [1, 2]⟩), (⟨.slice (some ⟨g159_1, 0, none⟩) 1 1, .slice (some ⟨g159_2, 0, none⟩) 1 1, .slice none 0 0⟩, (leafN 3)), (⟨.slice (some ⟨wq160.heap.size, 0, none⟩) 1 1, .slice (some ⟨wq160.heap.size + 1, 0, none⟩) 1 1, .slice (some ⟨wq160.heap.size + 1 + 1, 0, none⟩) 2 2⟩, ⟨[⟨7, 0⟩], [7], [3, 4]⟩), (⟨.slice (some ⟨g165_1, 0, none⟩) 1 1, .slice (some ⟨g165_2, 0, none⟩) 1 1, .slice none 0 0⟩, (leafN 6)), (⟨.slice (some ⟨g166_1, 0, none⟩) 1 1, .slice (some ⟨g166_2, 0, none⟩) 1 1, .slice none 0 0⟩, (leafN 8))]) (Blk.at_end _ _ _ (by simp)) (by
      intro x hx
      simp only [List.mem_cons, List.not_mem_nil, or_false] at hx
      rcases hx with rfl | rfl | rfl | rfl | rfl
      · exact ⟨F155.out, F156.out, F157.out⟩
      · exact Fg159.out
      · exact ⟨F161.out, F162.out, F163.out⟩
      · exact Fg165.out
      · exact Fg166.out))
    clear F155 F156 F157 Fg159 F161 F162 F163 Fg165 Fg166
    replace hlow := hlow.trans (hB.mono hlow.size)
    clear hB hbk
    go_wp2_with fail
    with_reducible refine Calls.mono (leaf_any _ _) ?_
    rintro e wq173 ⟨g173_1, g173_2, rfl, fg173, hbk⟩
    have hB : Below wq168.heap.size wq168 wq173 := by (repeat (first | (with_reducible assumption) | (with_reducible exact Below.refl _ _) | ((with_reducible refine Below.setCell ?_ ?_ _); rotate_left; · (first | omega | (simp; done) | (simp; omega) | (simp at *; omega))) | ((with_reducible refine Below.alloc ?_ ?_ _); rotate_left; · (first | omega | (simp; done) | (simp; omega) | (simp at *; omega))) | (with_reducible refine Below.drew ?_) | (with_reducible refine below_drewN ?_ _) | ((refine Below.trans ?_ (Below.mono (by with_reducible assumption) ?_)); rotate_left; · (first | omega | (simp; done) | (simp; omega) | (simp at *; omega)))))
    replace FG := Lib.hid (FG.out.on hB (Nat.le_refl _))
    replace F99 := Lib.hid (F99.out.on hB (Nat.le_refl _))
    replace F105 := Lib.hid (F105.out.on hB (Nat.le_refl _))
    replace F111 := Lib.hid (F111.out.on hB (Nat.le_refl _))
    replace F118 := Lib.hid (F118.out.on hB (Nat.le_refl _))
    replace F120 := Lib.hid (F120.out.on hB (Nat.le_refl _))
    replace F123 := Lib.hid (F123.out.on hB (Nat.le_refl _))
    replace F130 := Lib.hid (F130.out.on hB (Nat.le_refl _))
    replace F138 := Lib.hid (F138.out.on hB (Nat.le_refl _))
    replace F146 := Lib.hid (F146.out.on hB (Nat.le_refl _))
    replace F153 := Lib.hid (F153.out.on hB (Nat.le_refl _))
    replace F167 := Lib.hid (F167.out.on hB (Nat.le_refl _))
    have F169 := Lib.hid (show KsAt wq173 (.slice (some ⟨wq168.heap.size, 0, none⟩) 1 1) [⟨5, 0⟩] from lay_k hbk (ks := [⟨5, 0⟩]) (((Blk.at_end _ _ _ (by simp)).alloc _).alloc _))
    have F170 := Lib.hid (show IsAt wq173 (.slice (some ⟨wq168.heap.size + 1, 0, none⟩) 1 1) [5] from lay_i hbk (xs := [5]) ((Blk.at_end _ _ _ (by simp)).alloc _))
    have F171 := Lib.hid (show IsAt wq173 (.slice (some ⟨wq168.heap.size + 1 + 1, 0, none⟩) 2 2) [1, 2] from lay_i hbk (xs := [1, 2]) (Blk.at_end _ _ _ (by simp)))
    have Fg173 := Lib.hid fg173
    clear fg173
    replace hlow := hlow.trans (hB.mono hlow.size)
    clear hB hbk
    go_wp2_with fail
    with_reducible refine Calls.mono (leaf_any _ _) ?_
    rintro e wq174 ⟨g174_1, g174_2, rfl, fg174, hbk⟩
    have hB : Below wq173.heap.size wq173 wq174 := by (repeat (first | (with_reducible assumption) | (with_reducible exact Below.refl _ _) | ((with_reducible refine Below.setCell ?_ ?_ _); rotate_left; · (first | omega | (simp; done) | (simp; omega) | (simp at *; omega))) | ((with_reducible refine Below.alloc ?_ ?_ _); rotate_left; · (first | omega | (simp; done) | (simp; omega) | (simp at *; omega))) | (with_reducible refine Below.drew ?_) | (with_reducible refine below_drewN ?_ _) | ((refine Below.trans ?_ (Below.mono (by with_reducible assumption) ?_)); rotate_left; · (first | omega | (simp; done) | (simp; omega) | (simp at *; omega)))))
    replace FG := Lib.hid (FG.out.on hB (Nat.le_refl _))
    replace F99 := Lib.hid (F99.out.on hB (Nat.le_refl _))
    replace F105 := Lib.hid (F105.out.on hB (Nat.le_refl _))
    replace F111 := Lib.hid (F111.out.on hB (Nat.le_refl _))
    replace F118 := Lib.hid (F118.out.on hB (Nat.le_refl _))
    replace F120 := Lib.hid (F120.out.on hB (Nat.le_refl _))
    replace F123 := Lib.hid (F123.out.on hB (Nat.le_refl _))
    replace F130 := Lib.hid (F130.out.on hB (Nat.le_refl _))
    replace F138 := Lib.hid (F138.out.on hB (Nat.le_refl _))
    replace F146 := Lib.hid (F146.out.on hB (Nat.le_refl _))
    replace F153 := Lib.hid (F153.out.on hB (Nat.le_refl _))
    replace F167 := Lib.hid (F167.out.on hB (Nat.le_refl _))
    replace F169 := Lib.hid (F169.out.on hB (Nat.le_refl _))
    replace F170 := Lib.hid (F170.out.on hB (Nat.le_refl _))
    replace F171 := Lib.hid (F171.out.on hB (Nat.le_refl _))
    replace Fg173 := Lib.hid (Fg173.out.on hB (Nat.le_refl _))
    have Fg174 := Lib.hid fg174
    clear fg174
    replace hlow := hlow.trans (hB.mono hlow.size)
    clear hB hbk
    go_wp2_with fail
    with_reducible refine Calls.mono (key_any _ _ _) ?_
    rintro e wq175 ⟨rfl, hbk⟩
    have hB : Below wq174.heap.size wq174 wq175 := by (repeat (first | (with_reducible assumption) | (with_reducible exact Below.refl _ _) | ((with_reducible refine Below.setCell ?_ ?_ _); rotate_left; · (first | omega | (simp; done) | (simp; omega) | (simp at *; omega))) | ((with_reducible refine Below.alloc ?_ ?_ _); rotate_left; · (first | omega | (simp; done) | (simp; omega) | (simp at *; omega))) | (with_reducible refine Below.drew ?_) | (with_reducible refine below_drewN ?_ _) | ((refine Below.trans ?_ (Below.mono (by with_reducible assumption) ?_)); rotate_left; · (first | omega | (simp; done) | (simp; omega) | (simp at *; omega)))))
    replace FG := Lib.hid (FG.out.on hB (Nat.le_refl _))
    replace F99 := Lib.hid (F99.out.on hB (Nat.le_refl _))
    replace F105 := Lib.hid (F105.out.on hB (Nat.le_refl _))
    replace F111 := Lib.hid (F111.out.on hB (Nat.le_refl _))
    replace F118 := Lib.hid (F118.out.on hB (Nat.le_refl _))
    replace F120 := Lib.hid (F120.out.on hB (Nat.le_refl _))
    replace F123 := Lib.hid (F123.out.on hB (Nat.le_refl _))
    replace F130 := Lib.hid (F130.out.on hB (Nat.le_refl _))
    replace F138 := Lib.hid (F138.out.on hB (Nat.le_refl _))
    replace F146 := Lib.hid (F146.out.on hB (Nat.le_refl _))
    replace F153 := Lib.hid (F153.out.on hB (Nat.le_refl _))
    replace F167 := Lib.hid (F167.out.on hB (Nat.le_refl _))
    replace F169 := Lib.hid (F169.out.on hB (Nat.le_refl _))
    replace F170 := Lib.hid (F170.out.on hB (Nat.le_refl _))
    replace F171 := Lib.hid (F171.out.on hB (Nat.le_refl _))
    replace Fg173 := Lib.hid (Fg173.out.on hB (Nat.le_refl _))
    replace Fg174 := Lib.hid (Fg174.out.on hB (Nat.le_refl _))
    replace hlow := hlow.trans (hB.mono hlow.size)
    clear hB hbk
    go_wp2_with fail
    with_reducible refine Calls.mono (leaf_any _ _) ?_
    rintro e wq180 ⟨g180_1, g180_2, rfl, fg180, hbk⟩
    have hB : Below wq175.heap.size wq175 wq180 := by (repeat (first | (with_reducible assumption) | (with_reducible exact Below.refl _ _) | ((with_reducible refine Below.setCell ?_ ?_ _); rotate_left; · (first | omega | (simp; done) | (simp; omega) | (simp at *; omega))) | ((with_reducible refine Below.alloc ?_ ?_ _); rotate_left; · (first | omega | (simp; done) | (simp; omega) | (simp at *; omega))) | (with_reducible refine Below.drew ?_) | (with_reducible refine below_drewN ?_ _) | ((refine Below.trans ?_ (Below.mono (by with_reducible assumption) ?_)); rotate_left; · (first | omega | (simp; done) | (simp; omega) | (simp at *; omega)))))
    replace FG := Lib.hid (FG.out.on hB (Nat.le_refl _))
    replace F99 := Lib.hid (F99.out.on hB (Nat.le_refl _))
    replace F105 := Lib.hid (F105.out.on hB (Nat.le_refl _))
    replace F111 := Lib.hid (F111.out.on hB (Nat.le_refl _))
    replace F118 := Lib.hid (F118.out.on hB (Nat.le_refl _))
    replace F120 := Lib.hid (F120.out.on hB (Nat.le_refl _))
    replace F123 := Lib.hid (F123.out.on hB (Nat.le_refl _))
    replace F130 := Lib.hid (F130.out.on hB (Nat.le_refl _))
    replace F138 := Lib.hid (F138.out.on hB (Nat.le_refl _))
    replace F146 := Lib.hid (F146.out.on hB (Nat.le_refl _))
    replace F153 := Lib.hid (F153.out.on hB (Nat.le_refl _))
    replace F167 := Lib.hid (F167.out.on hB (Nat.le_refl _))
    replace F169 := Lib.hid (F169.out.on hB (Nat.le_refl _))
    replace F170 := Lib.hid (F170.out.on hB (Nat.le_refl _))
    replace F171 := Lib.hid (F171.out.on hB (Nat.le_refl _))
    replace Fg173 := Lib.hid (Fg173.out.on hB (Nat.le_refl _))
    replace Fg174 := Lib.hid (Fg174.out.on hB (Nat.le_refl _))
    have F176 := Lib.hid (show KsAt wq180 (.slice (some ⟨wq175.heap.size, 0, none⟩) 1 1) [⟨9, 0⟩] from lay_k hbk (ks := [⟨9, 0⟩]) (((Blk.at_end _ _ _ (by simp)).alloc _).alloc _))
    have F177 := Lib.hid (show IsAt wq180 (.slice (some ⟨wq175.heap.size + 1, 0, none⟩) 1 1) [9] from lay_i hbk (xs := [9]) ((Blk.at_end _ _ _ (by simp)).alloc _))
    have F178 := Lib.hid (show IsAt wq180 (.slice (some ⟨wq175.heap.size + 1 + 1, 0, none⟩) 2 2) [4, 3] from lay_i hbk (xs := [4, 3]) (Blk.at_end _ _ _ (by simp)))
    have Fg180 := Lib.hid fg180
    clear fg180
    replace hlow := hlow.trans (hB.mono hlow.size)
    clear hB hbk
    go_wp2_with fail
    with_reducible refine Calls.mono (key_any _ _ _) ?_
    rintro e wq182 ⟨rfl, hbk⟩
    have hB : Below wq180.heap.size wq180 wq182 := by (repeat (first | (with_reducible assumption) | (with_reducible exact Below.refl _ _) | ((with_reducible refine Below.setCell ?_ ?_ _); rotate_left; · (first | omega | (simp; done) | (simp; omega) | (simp at *; omega))) | ((with_reducible refine Below.alloc ?_ ?_ _); rotate_left; · (first | omega | (simp; done) | (simp; omega) | (simp at *; omega))) | (with_reducible refine Below.drew ?_) | (with_reducible refine below_drewN ?_ _) | ((refine Below.trans ?_ (Below.mono (by with_reducible assumption) ?_)); rotate_left; · (first | omega | (simp; done) | (simp; omega) | (simp at *; omega)))))
    replace FG := Lib.hid (FG.out.on hB (Nat.le_refl _))
    replace F99 := Lib.hid (F99.out.on hB (Nat.le_refl _))
    replace F105 := Lib.hid (F105.out.on hB (Nat.le_refl _))
    replace F111 := Lib.hid (F111.out.on hB (Nat.le_refl _))
    replace F118 := Lib.hid (F118.out.on hB (Nat.le_refl _))
    replace F120 := Lib.hid (F120.out.on hB (Nat.le_refl _))
    replace F123 := Lib.hid (F123.out.on hB (Nat.le_refl _))
    replace F130 := Lib.hid (F130.out.on hB (Nat.le_refl _))
    replace F138 := Lib.hid (F138.out.on hB (Nat.le_refl _))
    replace F146 := Lib.hid (F146.out.on hB (Nat.le_refl _))
    replace F153 := Lib.hid (F153.out.on hB (Nat.le_refl _))
    replace F167 := Lib.hid (F167.out.on hB (Nat.le_refl _))
    replace F169 := Lib.hid (F169.out.on hB (Nat.le_refl _))
    replace F170 := Lib.hid (F170.out.on hB (Nat.le_refl _))
    replace F171 := Lib.hid (F171.out.on hB (Nat.le_refl _))
    replace Fg173 := Lib.hid (Fg173.out.on hB (Nat.le_refl _))
    replace Fg174 := Lib.hid (Fg174.out.on hB (Nat.le_refl _))
    replace F176 := Lib.hid (F176.out.on hB (Nat.le_refl _))
    replace F177 := Lib.hid (F177.out.on hB (Nat.le_refl _))
    replace F178 := Lib.hid (F178.out.on hB (Nat.le_refl _))
    replace Fg180 := Lib.hid (Fg180.out.on hB (Nat.le_refl _))
    have F181 := Lib.hid (show NdsAt wq182 (.slice (some ⟨wq180.heap.size, 0, none⟩) 5 5) [⟨[⟨5, 0⟩], [5], [1, 2]⟩, (leafN 3), (leafN 7), ⟨[⟨9, 0⟩], [9], [4, 3]⟩, (leafN 8)] from lay_n hbk (L := [(⟨.slice (some ⟨wq168.heap.size, 0, none⟩) 1 1, .slice (some ⟨wq168.heap.size + 1, 0, none⟩) 1 1, .slice (some ⟨wq168.heap.size + 1 + 1, 0, none⟩) 2 2⟩, ⟨[⟨5, 0⟩], [5], [1, 2]⟩), (⟨.slice (some ⟨g173_1, 0, none⟩) 1 1, .slice (some ⟨g173_2, 0, none⟩) 1 1, .slice none 0 0⟩, (leafN 3)), (⟨.slice (some ⟨g174_1, 0, none⟩) 1 1, .slice (some ⟨g174_2, 0, none⟩) 1 1, .slice none 0 0⟩, (leafN 7)), (⟨.slice (some ⟨wq175.heap.size, 0, none⟩) 1 1, .slice (some ⟨wq175.heap.size + 1, 0, none⟩) 1 1, .slice (some ⟨wq175.heap.size + 1 + 1, 0, none⟩) 2 2⟩, ⟨[⟨9, 0⟩], [9], [4, 3]⟩), (⟨.slice (some ⟨g180_1, 0, none⟩) 1 1, .slice (some ⟨g180_2, 0, none⟩) 1 1, .slice none 0 0⟩, (leafN 8))]) (Blk.at_end _ _ _ (by simp)) (by
      intro x hx
      simp only [List.mem_cons, List.not_mem_nil, or_false] at hx
      rcases hx with rfl | rfl | rfl | rfl | rfl
      · exact ⟨F169.out, F170.out, F171.out⟩
      · exact Fg173.out
      · exact Fg174.out
      · exact ⟨F176.out, F177.out, F178.out⟩
      · exact Fg180.out))
    clear F169 F170 F171 Fg173 Fg174 F176 F177 F178 Fg180
    replace hlow := hlow.trans (hB.mono hlow.size)
    clear hB hbk
    go_wp2_with fail
    with_reducible refine Calls.mono (key_any _ _ _) ?_
    rintro e wq183 ⟨rfl, hbk⟩
    have hB : Below wq182.heap.size wq182 wq183 := by (repeat (first | (with_reducible assumption) | (with_reducible exact Below.refl _ _) | ((with_reducible refine Below.setCell ?_ ?_ _); rotate_left; · (first | omega | (simp; done) | (simp; omega) | (simp at *; omega))) | ((with_reducible refine Below.alloc ?_ ?_ _); rotate_left; · (first | omega | (simp; done) | (simp; omega) | (simp at *; omega))) | (with_reducible refine Below.drew ?_) | (with_reducible refine below_drewN ?_ _) | ((refine Below.trans ?_ (Below.mono (by with_reducible assumption) ?_)); rotate_left; · (first | omega | (simp; done) | (simp; omega) | (simp at *; omega)))))
    replace FG := Lib.hid (FG.out.on hB (Nat.le_refl _))
    replace F99 := Lib.hid (F99.out.on hB (Nat.le_refl _))
    replace F105 := Lib.hid (F105.out.on hB (Nat.le_refl _))
    replace F111 := Lib.hid (F111.out.on hB (Nat.le_refl _))
    replace F118 := Lib.hid (F118.out.on hB (Nat.le_refl _))
    replace F120 := Lib.hid (F120.out.on hB (Nat.le_refl _))
    replace F123 := Lib.hid (F123.out.on hB (Nat.le_refl _))
    replace F130 := Lib.hid (F130.out.on hB (Nat.le_refl _))
    replace F138 := Lib.hid (F138.out.on hB (Nat.le_refl _))
    replace F146 := Lib.hid (F146.out.on hB (Nat.le_refl _))
    replace F153 := Lib.hid (F153.out.on hB (Nat.le_refl _))
    replace F167 := Lib.hid (F167.out.on hB (Nat.le_refl _))
    replace F181 := Lib.hid (F181.out.on hB (Nat.le_refl _))
    replace hlow := hlow.trans (hB.mono hlow.size)
    clear hB hbk
    go_wp2_with fail
    with_reducible refine Calls.mono (key_any _ _ _) ?_
    rintro e wq184 ⟨rfl, hbk⟩
    have hB : Below wq183.heap.size wq183 wq184 := by (repeat (first | (with_reducible assumption) | (with_reducible exact Below.refl _ _) | ((with_reducible refine Below.setCell ?_ ?_ _); rotate_left; · (first | omega | (simp; done) | (simp; omega) | (simp at *; omega))) | ((with_reducible refine Below.alloc ?_ ?_ _); rotate_left; · (first | omega | (simp; done) | (simp; omega) | (simp at *; omega))) | (with_reducible refine Below.drew ?_) | (with_reducible refine below_drewN ?_ _) | ((refine Below.trans ?_ (Below.mono (by with_reducible assumption) ?_)); rotate_left; · (first | omega | (simp; done) | (simp; omega) | (simp at *; omega)))))
    replace FG := Lib.hid (FG.out.on hB (Nat.le_refl _))
    replace F99 := Lib.hid (F99.out.on hB (Nat.le_refl _))
    replace F105 := Lib.hid (F105.out.on hB (Nat.le_refl _))
    replace F111 := Lib.hid (F111.out.on hB (Nat.le_refl _))
    replace F118 := Lib.hid (F118.out.on hB (Nat.le_refl _))
    replace F120 := Lib.hid (F120.out.on hB (Nat.le_refl _))
    replace F123 := Lib.hid (F123.out.on hB (Nat.le_refl _))
    replace F130 := Lib.hid (F130.out.on hB (Nat.le_refl _))
    replace F138 := Lib.hid (F138.out.on hB (Nat.le_refl _))
    replace F146 := Lib.hid (F146.out.on hB (Nat.le_refl _))
    replace F153 := Lib.hid (F153.out.on hB (Nat.le_refl _))
    replace F167 := Lib.hid (F167.out.on hB (Nat.le_refl _))
    replace F181 := Lib.hid (F181.out.on hB (Nat.le_refl _))
    replace hlow := hlow.trans (hB.mono hlow.size)
    clear hB hbk
    go_wp2_with fail
    with_reducible refine Calls.mono (key_any _ _ _) ?_
    rintro e wq185 ⟨rfl, hbk⟩
    have hB : Below wq184.heap.size wq184 wq185 := by (repeat (first | (with_reducible assumption) | (with_reducible exact Below.refl _ _) | ((with_reducible refine Below.setCell ?_ ?_ _); rotate_left; · (first | omega | (simp; done) | (simp; omega) | (simp at *; omega))) | ((with_reducible refine Below.alloc ?_ ?_ _); rotate_left; · (first | omega | (simp; done) | (simp; omega) | (simp at *; omega))) | (with_reducible refine Below.drew ?_) | (with_reducible refine below_drewN ?_ _) | ((refine Below.trans ?_ (Below.mono (by with_reducible assumption) ?_)); rotate_left; · (first | omega | (simp; done) | (simp; omega) | (simp at *; omega)))))
    replace FG := Lib.hid (FG.out.on hB (Nat.le_refl _))
    replace F99 := Lib.hid (F99.out.on hB (Nat.le_refl _))
    replace F105 := Lib.hid (F105.out.on hB (Nat.le_refl _))
    replace F111 := Lib.hid (F111.out.on hB (Nat.le_refl _))
    replace F118 := Lib.hid (F118.out.on hB (Nat.le_refl _))
    replace F120 := Lib.hid (F120.out.on hB (Nat.le_refl _))
    replace F123 := Lib.hid (F123.out.on hB (Nat.le_refl _))
    replace F130 := Lib.hid (F130.out.on hB (Nat.le_refl _))
    replace F138 := Lib.hid (F138.out.on hB (Nat.le_refl _))
    replace F146 := Lib.hid (F146.out.on hB (Nat.le_refl _))
    replace F153 := Lib.hid (F153.out.on hB (Nat.le_refl _))
    replace F167 := Lib.hid (F167.out.on hB (Nat.le_refl _))
    replace F181 := Lib.hid (F181.out.on hB (Nat.le_refl _))
    replace hlow := hlow.trans (hB.mono hlow.size)
    clear hB hbk
    go_wp2_with fail
    go_meet
    refine ⟨rows_end (Blk.at_end _ _ _ (by simp)) (hlow.trans (Below.mono (by (repeat (first | (with_reducible assumption) | (with_reducible exact Below.refl _ _) | ((with_reducible refine Below.setCell ?_ ?_ _); rotate_left; · (first | omega | (simp; done) | (simp; omega) | (simp at *; omega))) | ((with_reducible refine Below.alloc ?_ ?_ _); rotate_left; · (first | omega | (simp; done) | (simp; omega) | (simp at *; omega))) | (with_reducible refine Below.drew ?_) | (with_reducible refine below_drewN ?_ _) | ((refine Below.trans ?_ (Below.mono (by with_reducible assumption) ?_)); rotate_left; · (first | omega | (simp; done) | (simp; omega) | (simp at *; omega)))))) hlow.size)) (fun i hi => ?_), FG.out.on (by (repeat (first | (with_reducible assumption) | (with_reducible exact Below.refl _ _) | ((with_reducible refine Below.setCell ?_ ?_ _); rotate_left; · (first | omega | (simp; done) | (simp; omega) | (simp at *; omega))) | ((with_reducible refine Below.alloc ?_ ?_ _); rotate_left; · (first | omega | (simp; done) | (simp; omega) | (simp at *; omega))) | (with_reducible refine Below.drew ?_) | (with_reducible refine below_drewN ?_ _) | ((refine Below.trans ?_ (Below.mono (by with_reducible assumption) ?_)); rotate_left; · (first | omega | (simp; done) | (simp; omega) | (simp at *; omega)))))) (Nat.le_refl _)⟩
    match i, hi with
    | 0, _ => exact ⟨_, _, rfl, (F99.out.on (by (repeat (first | (with_reducible assumption) | (with_reducible exact Below.refl _ _) | ((with_reducible refine Below.setCell ?_ ?_ _); rotate_left; · (first | omega | (simp; done) | (simp; omega) | (simp at *; omega))) | ((with_reducible refine Below.alloc ?_ ?_ _); rotate_left; · (first | omega | (simp; done) | (simp; omega) | (simp at *; omega))) | (with_reducible refine Below.drew ?_) | (with_reducible refine below_drewN ?_ _) | ((refine Below.trans ?_ (Below.mono (by with_reducible assumption) ?_)); rotate_left; · (first | omega | (simp; done) | (simp; omega) | (simp at *; omega)))))) (Nat.le_refl _))⟩
    | 1, _ => exact ⟨_, _, rfl, (F105.out.on (by (repeat (first | (with_reducible assumption) | (with_reducible exact Below.refl _ _) | ((with_reducible refine Below.setCell ?_ ?_ _); rotate_left; · (first | omega | (simp; done) | (simp; omega) | (simp at *; omega))) | ((with_reducible refine Below.alloc ?_ ?_ _); rotate_left; · (first | omega | (simp; done) | (simp; omega) | (simp at *; omega))) | (with_reducible refine Below.drew ?_) | (with_reducible refine below_drewN ?_ _) | ((refine Below.trans ?_ (Below.mono (by with_reducible assumption) ?_)); rotate_left; · (first | omega | (simp; done) | (simp; omega) | (simp at *; omega)))))) (Nat.le_refl _))⟩
    | 2, _ => exact ⟨_, _, rfl, (F111.out.on (by (repeat (first | (with_reducible assumption) | (with_reducible exact Below.refl _ _) | ((with_reducible refine Below.setCell ?_ ?_ _); rotate_left; · (first | omega | (simp; done) | (simp; omega) | (simp at *; omega))) | ((with_reducible refine Below.alloc ?_ ?_ _); rotate_left; · (first | omega | (simp; done) | (simp; omega) | (simp at *; omega))) | (with_reducible refine Below.drew ?_) | (with_reducible refine below_drewN ?_ _) | ((refine Below.trans ?_ (Below.mono (by with_reducible assumption) ?_)); rotate_left; · (first | omega | (simp; done) | (simp; omega) | (simp at *; omega)))))) (Nat.le_refl _))⟩
    | 3, _ => exact ⟨_, _, rfl, (F118.out.on (by (repeat (first | (with_reducible assumption) | (with_reducible exact Below.refl _ _) | ((with_reducible refine Below.setCell ?_ ?_ _); rotate_left; · (first | omega | (simp; done) | (simp; omega) | (simp at *; omega))) | ((with_reducible refine Below.alloc ?_ ?_ _); rotate_left; · (first | omega | (simp; done) | (simp; omega) | (simp at *; omega))) | (with_reducible refine Below.drew ?_) | (with_reducible refine below_drewN ?_ _) | ((refine Below.trans ?_ (Below.mono (by with_reducible assumption) ?_)); rotate_left; · (first | omega | (simp; done) | (simp; omega) | (simp at *; omega)))))) (Nat.le_refl _))⟩
    | 4, _ => exact ⟨_, _, rfl, (F120.out.on (by (repeat (first | (with_reducible assumption) | (with_reducible exact Below.refl _ _) | ((with_reducible refine Below.setCell ?_ ?_ _); rotate_left; · (first | omega | (simp; done) | (simp; omega) | (simp at *; omega))) | ((with_reducible refine Below.alloc ?_ ?_ _); rotate_left; · (first | omega | (simp; done) | (simp; omega) | (simp at *; omega))) | (with_reducible refine Below.drew ?_) | (with_reducible refine below_drewN ?_ _) | ((refine Below.trans ?_ (Below.mono (by with_reducible assumption) ?_)); rotate_left; · (first | omega | (simp; done) | (simp; omega) | (simp at *; omega)))))) (Nat.le_refl _))⟩
    | 5, _ => exact ⟨_, _, rfl, (F123.out.on (by (repeat (first | (with_reducible assumption) | (with_reducible exact Below.refl _ _) | ((with_reducible refine Below.setCell ?_ ?_ _); rotate_left; · (first | omega | (simp; done) | (simp; omega) | (simp at *; omega))) | ((with_reducible refine Below.alloc ?_ ?_ _); rotate_left; · (first | omega | (simp; done) | (simp; omega) | (simp at *; omega))) | (with_reducible refine Below.drew ?_) | (with_reducible refine below_drewN ?_ _) | ((refine Below.trans ?_ (Below.mono (by with_reducible assumption) ?_)); rotate_left; · (first | omega | (simp; done) | (simp; omega) | (simp at *; omega)))))) (Nat.le_refl _))⟩
    | 6, _ => exact ⟨_, _, rfl, (F130.out.on (by (repeat (first | (with_reducible assumption) | (with_reducible exact Below.refl _ _) | ((with_reducible refine Below.setCell ?_ ?_ _); rotate_left; · (first | omega | (simp; done) | (simp; omega) | (simp at *; omega))) | ((with_reducible refine Below.alloc ?_ ?_ _); rotate_left; · (first | omega | (simp; done) | (simp; omega) | (simp at *; omega))) | (with_reducible refine Below.drew ?_) | (with_reducible refine below_drewN ?_ _) | ((refine Below.trans ?_ (Below.mono (by with_reducible assumption) ?_)); rotate_left; · (first | omega | (simp; done) | (simp; omega) | (simp at *; omega)))))) (Nat.le_refl _))⟩
    | 7, _ => exact ⟨_, _, rfl, (F138.out.on (by (repeat (first | (with_reducible assumption) | (with_reducible exact Below.refl _ _) | ((with_reducible refine Below.setCell ?_ ?_ _); rotate_left; · (first | omega | (simp; done) | (simp; omega) | (simp at *; omega))) | ((with_reducible refine Below.alloc ?_ ?_ _); rotate_left; · (first | omega | (simp; done) | (simp; omega) | (simp at *; omega))) | (with_reducible refine Below.drew ?_) | (with_reducible refine below_drewN ?_ _) | ((refine Below.trans ?_ (Below.mono (by with_reducible assumption) ?_)); rotate_left; · (first | omega | (simp; done) | (simp; omega) | (simp at *; omega)))))) (Nat.le_refl _))⟩
    | 8, _ => exact ⟨_, _, rfl, (F146.out.on (by (repeat (first | (with_reducible assumption) | (with_reducible exact Below.refl _ _) | ((with_reducible refine Below.setCell ?_ ?_ _); rotate_left; · (first | omega | (simp; done) | (simp; omega) | (simp at *; omega))) | ((with_reducible refine Below.alloc ?_ ?_ _); rotate_left; · (first | omega | (simp; done) | (simp; omega) | (simp at *; omega))) | (with_reducible refine Below.drew ?_) | (with_reducible refine below_drewN ?_ _) | ((refine Below.trans ?_ (Below.mono (by with_reducible assumption) ?_)); rotate_left; · (first | omega | (simp; done) | (simp; omega) | (simp at *; omega)))))) (Nat.le_refl _))⟩
    | 9, _ => exact ⟨_, _, rfl, (F153.out.on (by (repeat (first | (with_reducible assumption) | (with_reducible exact Below.refl _ _) | ((with_reducible refine Below.setCell ?_ ?_ _); rotate_left; · (first | omega | (simp; done) | (simp; omega) | (simp at *; omega))) | ((with_reducible refine Below.alloc ?_ ?_ _); rotate_left; · (first | omega | (simp; done) | (simp; omega) | (simp at *; omega))) | (with_reducible refine Below.drew ?_) | (with_reducible refine below_drewN ?_ _) | ((refine Below.trans ?_ (Below.mono (by with_reducible assumption) ?_)); rotate_left; · (first | omega | (simp; done) | (simp; omega) | (simp at *; omega)))))) (Nat.le_refl _))⟩
    | 10, _ => exact ⟨_, _, rfl, (F167.out.on (by (repeat (first | (with_reducible assumption) | (with_reducible exact Below.refl _ _) | ((with_reducible refine Below.setCell ?_ ?_ _); rotate_left; · (first | omega | (simp; done) | (simp; omega) | (simp at *; omega))) | ((with_reducible refine Below.alloc ?_ ?_ _); rotate_left; · (first | omega | (simp; done) | (simp; omega) | (simp at *; omega))) | (with_reducible refine Below.drew ?_) | (with_reducible refine below_drewN ?_ _) | ((refine Below.trans ?_ (Below.mono (by with_reducible assumption) ?_)); rotate_left; · (first | omega | (simp; done) | (simp; omega) | (simp at *; omega)))))) (Nat.le_refl _))⟩
    | 11, _ => exact ⟨_, _, rfl, (F181.out.on (by (repeat (first | (with_reducible assumption) | (with_reducible exact Below.refl _ _) | ((with_reducible refine Below.setCell ?_ ?_ _); rotate_left; · (first | omega | (simp; done) | (simp; omega) | (simp at *; omega))) | ((with_reducible refine Below.alloc ?_ ?_ _); rotate_left; · (first | omega | (simp; done) | (simp; omega) | (simp at *; omega))) | (with_reducible refine Below.drew ?_) | (with_reducible refine below_drewN ?_ _) | ((refine Below.trans ?_ (Below.mono (by with_reducible assumption) ?_)); rotate_left; · (first | omega | (simp; done) | (simp; omega) | (simp at *; omega)))))) (Nat.le_refl _))⟩
    | 12, _ => exact ⟨_, _, rfl, (lay_n (Below.refl _ _) (L := [(⟨.slice (some ⟨wq185.heap.size, 0, none⟩) 4 4, .slice (some ⟨wq185.heap.size + 1, 0, none⟩) 4 4, .slice none 0 0⟩, ⟨[⟨1, 0⟩, ⟨2, 0⟩, ⟨3, 0⟩, ⟨4, 0⟩], [1, 2, 3, 4], []⟩)]) ((Blk.at_end _ _ _ (by simp)).alloc _) (fun x hx => by (simp only [List.mem_cons, List.not_mem_nil, or_false] at hx; subst hx; exact ⟨(lay_k (Below.refl _ _) (ks := [⟨1, 0⟩, ⟨2, 0⟩, ⟨3, 0⟩, ⟨4, 0⟩]) ((((Blk.at_end _ _ _ (by simp)).alloc _).alloc _).alloc _)), (lay_i (Below.refl _ _) (xs := [1, 2, 3, 4]) (((Blk.at_end _ _ _ (by simp)).alloc _).alloc _)), is_nil _⟩)))⟩
    | i + 13, hi => exact absurd hi (by omega)
  obtain ⟨⟨rb, rfl, hrb, hlow, hrows⟩, hG⟩ := hcut
  obtain ⟨wb, rfl⟩ : ∃ wq : World, wq = wc := ⟨_, rfl⟩
  have HR := Lib.hid (And.intro hrb (And.intro hlow hrows))
  have HG := Lib.hid hG
  clear hrb hlow hrows hG
  go_upto_block 2 with fail
  go_cut [] (fun wx => Below wb.heap.size wb wx)
  case first =>
    go_wp2_with fail
    go_loopg [11] 13 (fun g i wr => ∃ k : Nat, k ≤ 13 ∧ g = 13 - k ∧ i = .int .i64 k ∧ Below wb.heap.size wb wr)
    case atStart => exact ⟨0, by omega, rfl, rfl, Below.refl _ _⟩
    case round =>
      obtain ⟨k, hk, rfl, rfl, hb⟩ := hrel
      by_cases hlt : k < 13
      · have hki : (k : Int) < 13 := by omega
        have hk0 : (0 : Int) ≤ (k : Int) := by omega
        obtain ⟨A, c, hcell, hN⟩ := HR.out.2.2 k hlt
        have hc : wr.cell? ⟨rb, k, none⟩ = some (.slice A (badL.getD k []).length c) := by rw [hb.cell (p := ⟨rb, k, none⟩) HR.out.1]; exact hcell
        have hof : Calls Try.prog 25 #[.int .i64 2, .slice A (badL.getD k []).length c] wr fun e w' => e = .returned (.tuple #[.pointer none, .int .i64 4]) ∧ Below wr.heap.size wr w' :=
          (of_any (d := 2) (by omega) (by omega) (bad_not k hlt).2 (hN.on hb (Nat.le_refl _)) (bad_fit k hlt)).mono (fun e w' h => by
            rcases h with ⟨es, tr, h1, h2, h3⟩ | ⟨_, h1, h2⟩
            · rw [(bad_not k hlt).1] at h1
              cases h1
            · exact ⟨h1, h2⟩)
        obtain ⟨m, hm⟩ : ∃ m, m = (badL.getD k []).length := ⟨_, rfl⟩
        rw [← hm] at hc hof
        have HOF := Lib.hid hof
        have HB := Lib.hid hb
        clear hcell hN hb hm hof
        go_wp2_with (go_at_call 25; (with_reducible refine Calls.mono HOF.out ?_); rintro e w1 ⟨rfl, hb1⟩)
        go_roundg (13 - (k + 1))
        case measure => omega
        case rel => exact ⟨k + 1, by omega, rfl, by go_num, HB.out.trans (hb1.mono HB.out.size)⟩
      · obtain rfl : k = 13 := by omega
        have HB := Lib.hid hb
        clear hb
        go_wp2_with fail
        go_meet
        exact HB.out
  have HB := Lib.hid hcut
  obtain ⟨wd, rfl⟩ : ∃ wq : World, wq = wc := ⟨_, rfl⟩
  have HOF := Lib.hid (show Calls Try.prog 25 #[.int .i64 3, .slice (some ⟨gg, 0, none⟩) 3 3] wd fun e w' => e = .returned (.tuple #[.pointer none, .int .i64 4]) ∧ Below wd.heap.size wd w' from
    (of_any (d := 3) (by omega) (by omega) (show 0 < goodL.length by decide) (HG.out.on hcut (Nat.le_refl _)) good_fit).mono (fun e w' h => by
      rcases h with ⟨es, tr, h1, h2, h3⟩ | ⟨_, h1, h2⟩
      · rw [good_not] at h1
        cases h1
      · exact ⟨h1, h2⟩))
  clear hcut HG
  go_wp2_with (first
    | (go_at_call 25; (with_reducible refine Calls.mono HOF.out ?_); rintro e w1 ⟨rfl, hb1⟩)
    | (go_at_call 11; (with_reducible refine Calls.mono (known_any _) ?_); rintro e w2 ⟨rfl, hb2⟩))
  go_ret
  exact ⟨rfl, HR.out.2.1.trans ((HB.out.trans ((hb1.trans (hb2.mono hb1.size)).mono HB.out.size)).mono HR.out.2.1.size)⟩

theorem own : ownKnob Try.prog.godebug = none := by kernel_rfl

set_option maxRecDepth 100000 in
theorem lifted (os : Os) (started : os.Started) (H : Type) (enc : TypeId × Value → H) :
    ReturnsInHanded {} Try.checked os 7 .any (Rows.treeKnownSpec.pre6 enc Try.prog Try.f7 Rows.treeKnownRow.domain false) (Rows.treeKnownSpec.post enc Try.prog Try.f7 false true false false) := by
  refine law_lifted (C := Try.checked) (tb := 4) own started (by kernel_rfl) Try.func7
    (ChangeSpec.witness6 (enc := enc) (C := Try.checked) false ⟨#[], #[], []⟩ 8 (by kernel_rfl) (by kernel_rfl) (by kernel_rfl) (by kernel_rfl))
    rfl (by kernel_rfl) (by kernel_rfl) (by kernel_rfl) Try.underlying4 (fun ds h => ?_) ?_
  · rw [show Try.f7.params = #[] from Try.params7] at h
    match ds, h with
    | [], _ => rfl
  · intro W base args ds before _ hA _ _
    obtain ⟨rfl, rfl, rfl⟩ := trodAll_none (show DataW.TrodAll enc Try.prog W 0 (fun _ => true) true [] args.toList ds before from hA)
    exact walk W

theorem proved : Rows.TreeKnownSaid :=
  OpenClaim.holds_of_wide 7 Try.f7 rfl rfl rfl rfl rfl rfl rfl ⟨rfl, rfl, rfl, rfl, rfl⟩ rfl rfl rfl rfl rfl (by kernel_rfl) Try.func7 (by kernel_rfl)
    (of_decide_eq_true (by kernel_rfl)) (by unfold Func.isWrapper; rw [if_neg (of_decide_eq_false (by kernel_rfl))]; exact ⟨rfl, rfl⟩)
    (fun os started H enc _ => lifted os started H enc)
#print axioms proved
end TreeKnown
end Go.Proofs.Ytmmikolcipcldaa
