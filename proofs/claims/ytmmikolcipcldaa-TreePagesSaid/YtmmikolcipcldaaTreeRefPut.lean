/-
  What is proved here: the document's Put of entries (package outstationref15). Conditions: each theorem's own.
-/
import Derived.Test.YtmmikolcipcldaaTreeRef
namespace Go.Proofs.Ytmmikolcipcldaa
open Go.RowKit Go.Deep

/-- what insE makes, from the place on. -/
theorem insE_place {k : Ky} {v : Int} {es : List En} {x : Nat} (h1 : ∀ j, j < x → bel (es.getD j e0).1 k = true) (h2 : x < es.length → bel (es.getD x e0).1 k = false) (hx : x ≤ es.length) :
    insE k v es = (es.take x ++ [(k, v)]) ++ es.drop (if x < es.length ∧ (es.getD x e0).1 = k then x + 1 else x) := by
  have hs : es = es.take x ++ es.drop x := (List.take_append_drop x es).symm
  have ht : ∀ e ∈ es.take x, bel e.1 k = true := fun e he => by
    obtain ⟨j, hj, rfl⟩ := List.mem_iff_getElem.1 he
    rw [List.length_take] at hj
    have := h1 j (by omega)
    rw [List.getD_eq_getElem?_getD, List.getElem?_eq_getElem (show j < es.length by omega)] at this
    simpa using this
  have e1 : insE k v es = es.take x ++ insE k v (es.drop x) := by
    have := insE_skip (v := v) (es.drop x) ht
    rw [← hs] at this
    exact this
  rw [e1, List.append_assoc]
  congr 1
  by_cases hlt : x < es.length
  · have hd : es.drop x = es.getD x e0 :: es.drop (x + 1) := by
      rw [List.drop_eq_getElem_cons hlt, List.getD_eq_getElem?_getD, List.getElem?_eq_getElem hlt]
      rfl
    rw [hd]
    unfold insE
    rw [if_neg (by rw [h2 hlt]; simp)]
    by_cases hk : (es.getD x e0).1 = k
    · rw [if_pos hk, if_pos ⟨hlt, hk⟩]; rfl
    · rw [if_neg hk, if_neg (fun h => hk h.2), hd]; rfl
  · rw [List.drop_eq_nil_of_le (by omega), if_neg (fun h => hlt h.1), List.drop_eq_nil_of_le (by omega)]
    rfl
theorem hasE_place {k : Ky} {es : List En} {x : Nat} (hu : Up es) (h1 : ∀ j, j < x → bel (es.getD j e0).1 k = true) (h2 : x < es.length → bel (es.getD x e0).1 k = false) (hx : x ≤ es.length) : hasE k es = decide (x < es.length ∧ (es.getD x e0).1 = k) := by
  have hget : ∀ j (hj : j < es.length), es.getD j e0 = es[j] := fun j hj => by rw [List.getD_eq_getElem?_getD, List.getElem?_eq_getElem hj]; rfl
  by_cases h : x < es.length ∧ (es.getD x e0).1 = k
  · rw [decide_eq_true h]
    have := h.2
    rw [hget x h.1] at this
    unfold hasE
    rw [List.any_eq_true]
    exact ⟨_, List.getElem_mem h.1, by simpa using this⟩
  · rw [decide_eq_false h]
    refine (find_none (k := k) fun j hj hk => ?_).1
    rcases Nat.lt_trichotomy j x with hjx | hjx | hjx
    · have := h1 j hjx
      rw [hk, bel_irrefl] at this
      cases this
    · exact h ⟨by omega, by rw [← hjx]; exact hk⟩
    · have h3 := List.pairwise_iff_getElem.1 hu x j (by omega) hj hjx
      rw [← hget x (by omega), ← hget j hj, hk] at h3
      rw [h2 (by omega)] at h3
      cases h3

set_option maxRecDepth 100000 in
set_option maxHeartbeats 1000000 in
theorem rput_any {w : World} {u : Value} {es : List En} (k : Ky) (v : Int) (hu : EnsAt w u es) (hup : Up es) (hl : es.length ≤ 100000) :
    Calls Try.prog 33 #[u, .agg #[.int .i64 k.t, .int .i64 k.s], .int .i64 v] w fun e w' => ∃ r, e = .returned (.tuple #[r, .bool (!hasE k es)]) ∧ (∃ base, OwnE base w' r (insE k v es)) ∧ Below w.heap.size w w' := by
  obtain ⟨A, c, rfl, hc, h0, hA⟩ := hu
  have HA := Lib.hid (EnsAt.see ⟨A, c, rfl, hc, h0, hA⟩).2.2
  clear hA h0
  obtain ⟨kt, kk⟩ := k
  have HUP := Lib.hid hup
  clear hup
  have hb0 : Below w.heap.size w (w.alloc (.cells #[.int .i64 kt, .int .i64 kk] 24)) := by (repeat (first | (with_reducible assumption) | (with_reducible exact Below.refl _ _) | ((with_reducible refine Below.setCell ?_ ?_ _); rotate_left; · (first | omega | (simp; done) | (simp; omega) | (simp at *; omega))) | ((with_reducible refine Below.alloc ?_ ?_ _); rotate_left; · (first | omega | (simp; done) | (simp; omega) | (simp at *; omega))) | (with_reducible refine Below.drew ?_) | (with_reducible refine below_drewN ?_ _) | ((refine Below.trans ?_ (Below.mono (by with_reducible assumption) ?_)); rotate_left; · (first | omega | (simp; done) | (simp; omega) | (simp at *; omega)))))
  have hk1 := Blk.new w 24 #[.int .i64 kt, .int .i64 kk]
  have hsz : (w.alloc (.cells #[.int .i64 kt, .int .i64 kk] 24)).heap.size = w.heap.size + 1 := by simp
  go_enter Try.func33, Try.ntmps33
  go_upto_region 1 with fail
  obtain ⟨w0, hw0⟩ : ∃ w0 : World, w0 = w.alloc (.cells #[.int .i64 kt, .int .i64 kk] 24) := ⟨_, rfl⟩
  rw [← hw0] at hb0 hk1 hsz ⊢
  have HX := Lib.hid (And.intro hb0 (And.intro hk1 hsz))
  clear hw0 hb0 hk1 hsz
  go_wp2_with fail
  go_loopg [8, 9] es.length (fun g v i wr => ∃ x : Nat, x ≤ es.length ∧ g = es.length - x ∧ i = .int .i64 x ∧ OwnE w0.heap.size wr v (es.take x) ∧ Below w0.heap.size w0 wr ∧ (∀ j, j < x → bel (es.getD j e0).1 ⟨kt, kk⟩ = true))
  case atStart => exact ⟨0, Nat.zero_le _, rfl, rfl, OwnE.nil _ _, Below.refl _ _, fun j hj => absurd hj (by omega)⟩
  case round =>
    obtain ⟨x, hx, rfl, rfl, hO, hbw, hup⟩ := hrel
    have HU := Lib.hid hup
    have HO := Lib.hid hO
    have HBW := Lib.hid hbw
    clear hup hO hbw
    obtain ⟨b, hb⟩ : ∃ b, b = (decide (x < es.length) && bel (es.getD x e0).1 ⟨kt, kk⟩) := ⟨_, rfl⟩
    have HB := Lib.hid hb
    clear hb
    go_upto_region 3 with fail
    go_cut [23] (fun s wz => s = .bool b ∧ Below wr.heap.size wr wz)
    case first =>
      by_cases hlt : x < es.length
      · have hki : (x : Int) < (es.length : Int) := by omega
        have hk0 : (0 : Int) ≤ (x : Int) := by omega
        obtain ⟨g, o, rfl, hcell⟩ := HA.out (by omega)
        obtain ⟨⟨⟨p1, p2⟩, pv⟩, hp⟩ : ∃ p, p = es.getD x e0 := ⟨_, rfl⟩
        have HSW := Lib.hid (show ∀ W, Below wr.heap.size wr W → (W.cell? ⟨g, o + x * 3, none⟩ = some (.int .i64 p1) ∧ W.cell? ⟨g, o + x * 3 + 1, none⟩ = some (.int .i64 p2) ∧ W.cell? ⟨w.heap.size, 0, none⟩ = some (.int .i64 kt) ∧ W.cell? ⟨w.heap.size, 1, none⟩ = some (.int .i64 kk) ∧ W.cell? ⟨g, o + x * 3 + 2, none⟩ = some (.int .i64 pv)) from fun W hb => by
          have h1 := HBW.out.trans (hb.mono HBW.out.size)
          obtain ⟨z0, z1, z3⟩ := HX.out
          obtain ⟨c0, c1, c2⟩ := getE_at (hcell W (z0.trans (h1.mono (by omega)))) hlt hp.symm
          have y1 := z1.below h1 z1.lt
          exact ⟨c0, c1, y1.cell 0, y1.cell 1, c2⟩)
        have HR1 := Lib.hid (show ∀ W, Calls Try.prog 20 #[.agg #[.int .i64 p1, .int .i64 p2], .agg #[.int .i64 kt, .int .i64 kk]] W fun e w' => e = .returned (.bool b) ∧ Below W.heap.size W w' from fun W => (rbelow_any ⟨p1, p2⟩ ⟨kt, kk⟩ W).mono fun e w' h => ⟨by rw [h.1, HB.out, decide_eq_true hlt, Bool.true_and, ← hp], h.2⟩)
        clear hp hcell
        refine (wpIn_wide (n := 0)).1 ?_
        refine anyS_region (S := (fun W => W.cell? ⟨g, o + x * 3, none⟩ = some (.int .i64 p1) ∧ W.cell? ⟨g, o + x * 3 + 1, none⟩ = some (.int .i64 p2) ∧ W.cell? ⟨w.heap.size, 0, none⟩ = some (.int .i64 kt) ∧ W.cell? ⟨w.heap.size, 1, none⟩ = some (.int .i64 kk) ∧ W.cell? ⟨g, o + x * 3 + 2, none⟩ = some (.int .i64 pv))) 13 (by kernel_rfl) ?_ (fun hHeld => ?_)
        · exact HSW.out _ (below_drewN (Below.refl _ _) 1)
        refine anyS_take (i := 0) (v := ?_) (by (simp only [List.getElem?_toArray, List.getElem?_cons_zero]); exact rfl) (by kernel_rfl) (by kernel_rfl) (by kernel_rfl) (by kernel_rfl) (by decide) (by intro _ _ _ h; exact h) (Or.inl ⟨by rfl, ?_⟩) (by assumption) ?_
        rotate_left
        · (intro w hSw; (try dsimp only at hSw); go_simp; (try with_reducible rfl))
        try simp only [Act.put, List.setIfInBounds_toArray, List.set_cons_zero, List.set_cons_succ]
        refine anyS_take (i := 1) (v := ?_) (by (simp only [List.getElem?_toArray, List.getElem?_cons_zero, List.getElem?_cons_succ]); exact rfl) (by kernel_rfl) (by kernel_rfl) (by kernel_rfl) (by kernel_rfl) (by decide) (by intro _ _ _ h; exact h) (Or.inl ⟨by rfl, ?_⟩) (by assumption) ?_
        rotate_left
        · (intro w hSw; (try dsimp only at hSw); go_simp; (try with_reducible rfl))
        try simp only [Act.put, List.setIfInBounds_toArray, List.set_cons_zero, List.set_cons_succ]
        refine anyS_take (i := 2) (v := ?_) (by (simp only [List.getElem?_toArray, List.getElem?_cons_zero, List.getElem?_cons_succ]); exact rfl) (by kernel_rfl) (by kernel_rfl) (by kernel_rfl) (by kernel_rfl) (by decide) (by intro _ _ _ h; exact h) (Or.inl ⟨by rfl, ?_⟩) (by assumption) ?_
        rotate_left
        · (intro w hSw; (try dsimp only at hSw); go_simp; (try with_reducible rfl))
        try simp only [Act.put, List.setIfInBounds_toArray, List.set_cons_zero, List.set_cons_succ]
        refine anyS_take (i := 3) (v := ?_) (by (simp only [List.getElem?_toArray, List.getElem?_cons_zero, List.getElem?_cons_succ]); exact rfl) (by kernel_rfl) (by kernel_rfl) (by kernel_rfl) (by kernel_rfl) (by decide) (by intro _ _ _ h; exact h) (Or.inl ⟨by rfl, ?_⟩) (by assumption) ?_
        rotate_left
        · (intro w hSw; (try dsimp only at hSw); go_simp; (try with_reducible rfl))
        try simp only [Act.put, List.setIfInBounds_toArray, List.set_cons_zero, List.set_cons_succ]
        refine anyS_take (i := 4) (v := ?_) (by (simp only [List.getElem?_toArray, List.getElem?_cons_zero, List.getElem?_cons_succ]); exact rfl) (by kernel_rfl) (by kernel_rfl) (by kernel_rfl) (by kernel_rfl) (by decide) (by intro _ _ _ h; exact h) (Or.inl ⟨by rfl, ?_⟩) (by assumption) ?_
        rotate_left
        · (intro w hSw; (try dsimp only at hSw); go_simp; (try with_reducible rfl))
        try simp only [Act.put, List.setIfInBounds_toArray, List.set_cons_zero, List.set_cons_succ]
        refine anyS_take (i := 5) (v := ?_) (by (simp only [List.getElem?_toArray, List.getElem?_cons_zero, List.getElem?_cons_succ]); exact rfl) (by kernel_rfl) (by kernel_rfl) (by kernel_rfl) (by kernel_rfl) (by decide) (by intro _ _ _ h; exact h) (Or.inl ⟨by rfl, ?_⟩) (by assumption) ?_
        rotate_left
        · (intro w hSw; (try dsimp only at hSw); go_simp; (try with_reducible rfl))
        try simp only [Act.put, List.setIfInBounds_toArray, List.set_cons_zero, List.set_cons_succ]
        refine anyS_take (i := 6) (v := ?_) (by (simp only [List.getElem?_toArray, List.getElem?_cons_zero, List.getElem?_cons_succ]); exact rfl) (by kernel_rfl) (by kernel_rfl) (by kernel_rfl) (by kernel_rfl) (by decide) (by intro _ _ _ h; exact h) (Or.inl ⟨by rfl, ?_⟩) (by assumption) ?_
        rotate_left
        · (intro w hSw; (try dsimp only at hSw); go_simp; (try with_reducible rfl))
        try simp only [Act.put, List.setIfInBounds_toArray, List.set_cons_zero, List.set_cons_succ]
        refine anyS_take (i := 7) (v := ?_) (by (simp only [List.getElem?_toArray, List.getElem?_cons_zero, List.getElem?_cons_succ]); exact rfl) (by kernel_rfl) (by kernel_rfl) (by kernel_rfl) (by kernel_rfl) (by decide) (by intro _ _ _ h; exact h) (Or.inl ⟨by rfl, ?_⟩) (by assumption) ?_
        rotate_left
        · (intro w hSw; (try dsimp only at hSw); go_simp; (try with_reducible rfl))
        try simp only [Act.put, List.setIfInBounds_toArray, List.set_cons_zero, List.set_cons_succ]
        refine anyS_take (i := 8) (v := ?_) (by (simp only [List.getElem?_toArray, List.getElem?_cons_zero, List.getElem?_cons_succ]); exact rfl) (by kernel_rfl) (by kernel_rfl) (by kernel_rfl) (by kernel_rfl) (by decide) (by intro _ _ _ h; exact h) (Or.inl ⟨by rfl, ?_⟩) (by assumption) ?_
        rotate_left
        · (intro w hSw; (try dsimp only at hSw); go_simp; (try with_reducible rfl))
        try simp only [Act.put, List.setIfInBounds_toArray, List.set_cons_zero, List.set_cons_succ]
        refine anyS_take (i := 9) (v := ?_) (by (simp only [List.getElem?_toArray, List.getElem?_cons_zero, List.getElem?_cons_succ]); exact rfl) (by kernel_rfl) (by kernel_rfl) (by kernel_rfl) (by kernel_rfl) (by decide) (by intro _ _ _ h; exact h) (Or.inl ⟨by rfl, ?_⟩) (by assumption) ?_
        rotate_left
        · (intro w hSw; (try dsimp only at hSw); go_simp; (try with_reducible rfl))
        try simp only [Act.put, List.setIfInBounds_toArray, List.set_cons_zero, List.set_cons_succ]
        refine anyS_take (i := 10) (v := ?_) (by (simp only [List.getElem?_toArray, List.getElem?_cons_zero, List.getElem?_cons_succ]); exact rfl) (by kernel_rfl) (by kernel_rfl) (by kernel_rfl) (by kernel_rfl) (by decide) (by intro _ _ _ h; exact h) (Or.inl ⟨by rfl, ?_⟩) (by assumption) ?_
        rotate_left
        · (intro w hSw; (try dsimp only at hSw); go_simp; (try with_reducible rfl))
        try simp only [Act.put, List.setIfInBounds_toArray, List.set_cons_zero, List.set_cons_succ]
        refine anyS_only (i := 11) (by kernel_rfl) (by decide) (by (simp only [List.getElem?_toArray, List.getElem?_cons_zero, List.getElem?_cons_succ]); exact rfl) (by rfl) (fun K hK => ?_)
        go_simp
        refine ⟨trivial, rfl, ?_⟩
        gi_at_call 20
        refine (callsIn_wide.2 (HR1.out _)).mono ?_
        rintro e wk ⟨rfl, hbk⟩
        have hBL : Below wr.heap.size wr wk := Below.trans (below_drewN (Below.refl _ _) 1) hbk
        refine hK.out _ _ ?_ (fun hHeld => ?_)
        · exact HSW.out _ hBL
        clear hK K
        try simp only [Act.put, List.setIfInBounds_toArray, List.set_cons_zero, List.set_cons_succ]
        refine anyS_take (i := 12) (v := ?_) (by (simp only [List.getElem?_toArray, List.getElem?_cons_zero, List.getElem?_cons_succ]); exact rfl) (by kernel_rfl) (by kernel_rfl) (by kernel_rfl) (by kernel_rfl) (by decide) (by intro _ _ _ h; exact h) (Or.inl ⟨by rfl, ?_⟩) (by assumption) ?_
        rotate_left
        · (intro w hSw; (try dsimp only at hSw); go_simp; (try with_reducible rfl))
        try simp only [Act.put, List.setIfInBounds_toArray, List.set_cons_zero, List.set_cons_succ]
        refine anyS_done (by kernel_rfl) ?_ _
        go_wp2_with fail
        go_meet
        exact ⟨rfl, hBL⟩
      · obtain rfl : x = es.length := by omega
        have hki : ¬ (es.length : Int) < (es.length : Int) := by omega
        obtain rfl : b = false := by rw [HB.out, decide_eq_false hlt, Bool.false_and]
        refine (wpIn_wide (n := 0)).1 ?_
        refine anyS_region (S := (fun _ => True)) 13 (by kernel_rfl) ?_ (fun hHeld => ?_)
        · trivial
        refine anyS_take (i := 0) (v := ?_) (by (simp only [List.getElem?_toArray, List.getElem?_cons_zero]); exact rfl) (by kernel_rfl) (by kernel_rfl) (by kernel_rfl) (by kernel_rfl) (by decide) (by intro _ _ _ h; exact h) (Or.inl ⟨by rfl, ?_⟩) (by assumption) ?_
        rotate_left
        · (intro w hSw; (try dsimp only at hSw); go_simp; (try with_reducible rfl))
        try simp only [Act.put, List.setIfInBounds_toArray, List.set_cons_zero, List.set_cons_succ]
        refine anyS_take (i := 1) (v := ?_) (by (simp only [List.getElem?_toArray, List.getElem?_cons_zero, List.getElem?_cons_succ]); exact rfl) (by kernel_rfl) (by kernel_rfl) (by kernel_rfl) (by kernel_rfl) (by decide) (by intro _ _ _ h; exact h) (Or.inl ⟨by rfl, ?_⟩) (by assumption) ?_
        rotate_left
        · (intro w hSw; (try dsimp only at hSw); go_simp; (try with_reducible rfl))
        try simp only [Act.put, List.setIfInBounds_toArray, List.set_cons_zero, List.set_cons_succ]
        refine anyS_take (i := 2) (v := ?_) (by (simp only [List.getElem?_toArray, List.getElem?_cons_zero, List.getElem?_cons_succ]); exact rfl) (by kernel_rfl) (by kernel_rfl) (by kernel_rfl) (by kernel_rfl) (by decide) (by intro _ _ _ h; exact h) (Or.inl ⟨by rfl, ?_⟩) (by assumption) ?_
        rotate_left
        · (intro w hSw; (try dsimp only at hSw); go_simp; (try with_reducible rfl))
        try simp only [Act.put, List.setIfInBounds_toArray, List.set_cons_zero, List.set_cons_succ]
        refine anyS_take (i := 3) (v := ?_) (by (simp only [List.getElem?_toArray, List.getElem?_cons_zero, List.getElem?_cons_succ]); exact rfl) (by kernel_rfl) (by kernel_rfl) (by kernel_rfl) (by kernel_rfl) (by decide) (by intro _ _ _ h; exact h) (Or.inl ⟨by rfl, ?_⟩) (by assumption) ?_
        rotate_left
        · (intro w hSw; (try dsimp only at hSw); go_simp; (try with_reducible rfl))
        try simp only [Act.put, List.setIfInBounds_toArray, List.set_cons_zero, List.set_cons_succ]
        refine anyS_take (i := 4) (v := ?_) (by (simp only [List.getElem?_toArray, List.getElem?_cons_zero, List.getElem?_cons_succ]); exact rfl) (by kernel_rfl) (by kernel_rfl) (by kernel_rfl) (by kernel_rfl) (by decide) (by intro _ _ _ h; exact h) (Or.inl ⟨by rfl, ?_⟩) (by assumption) ?_
        rotate_left
        · (intro w hSw; (try dsimp only at hSw); go_simp; (try with_reducible rfl))
        try simp only [Act.put, List.setIfInBounds_toArray, List.set_cons_zero, List.set_cons_succ]
        refine anyS_take (i := 5) (v := undef) (by (simp only [List.getElem?_toArray, List.getElem?_cons_zero, List.getElem?_cons_succ]); exact rfl) (by kernel_rfl) (by kernel_rfl) (by kernel_rfl) (by kernel_rfl) (by decide) (by intro _ _ _ h; exact h) (Or.inr ⟨by rfl, rfl⟩) (by assumption) ?_
        try simp only [Act.put, List.setIfInBounds_toArray, List.set_cons_zero, List.set_cons_succ]
        refine anyS_take (i := 6) (v := undef) (by (simp only [List.getElem?_toArray, List.getElem?_cons_zero, List.getElem?_cons_succ]); exact rfl) (by kernel_rfl) (by kernel_rfl) (by kernel_rfl) (by kernel_rfl) (by decide) (by intro _ _ _ h; exact h) (Or.inr ⟨by rfl, rfl⟩) (by assumption) ?_
        try simp only [Act.put, List.setIfInBounds_toArray, List.set_cons_zero, List.set_cons_succ]
        refine anyS_take (i := 7) (v := undef) (by (simp only [List.getElem?_toArray, List.getElem?_cons_zero, List.getElem?_cons_succ]); exact rfl) (by kernel_rfl) (by kernel_rfl) (by kernel_rfl) (by kernel_rfl) (by decide) (by intro _ _ _ h; exact h) (Or.inr ⟨by rfl, rfl⟩) (by assumption) ?_
        try simp only [Act.put, List.setIfInBounds_toArray, List.set_cons_zero, List.set_cons_succ]
        refine anyS_take (i := 8) (v := undef) (by (simp only [List.getElem?_toArray, List.getElem?_cons_zero, List.getElem?_cons_succ]); exact rfl) (by kernel_rfl) (by kernel_rfl) (by kernel_rfl) (by kernel_rfl) (by decide) (by intro _ _ _ h; exact h) (Or.inr ⟨by rfl, rfl⟩) (by assumption) ?_
        try simp only [Act.put, List.setIfInBounds_toArray, List.set_cons_zero, List.set_cons_succ]
        refine anyS_take (i := 9) (v := undef) (by (simp only [List.getElem?_toArray, List.getElem?_cons_zero, List.getElem?_cons_succ]); exact rfl) (by kernel_rfl) (by kernel_rfl) (by kernel_rfl) (by kernel_rfl) (by decide) (by intro _ _ _ h; exact h) (Or.inr ⟨by rfl, rfl⟩) (by assumption) ?_
        try simp only [Act.put, List.setIfInBounds_toArray, List.set_cons_zero, List.set_cons_succ]
        refine anyS_take (i := 10) (v := undef) (by (simp only [List.getElem?_toArray, List.getElem?_cons_zero, List.getElem?_cons_succ]); exact rfl) (by kernel_rfl) (by kernel_rfl) (by kernel_rfl) (by kernel_rfl) (by decide) (by intro _ _ _ h; exact h) (Or.inr ⟨by rfl, rfl⟩) (by assumption) ?_
        try simp only [Act.put, List.setIfInBounds_toArray, List.set_cons_zero, List.set_cons_succ]
        refine anyS_take (i := 11) (v := undef) (by (simp only [List.getElem?_toArray, List.getElem?_cons_zero, List.getElem?_cons_succ]); exact rfl) (by kernel_rfl) (by kernel_rfl) (by kernel_rfl) (by kernel_rfl) (by decide) (by intro _ _ _ h; exact h) (Or.inr ⟨by rfl, rfl⟩) (by assumption) ?_
        try simp only [Act.put, List.setIfInBounds_toArray, List.set_cons_zero, List.set_cons_succ]
        refine anyS_take (i := 12) (v := ?_) (by (simp only [List.getElem?_toArray, List.getElem?_cons_zero, List.getElem?_cons_succ]); exact rfl) (by kernel_rfl) (by kernel_rfl) (by kernel_rfl) (by kernel_rfl) (by decide) (by intro _ _ _ h; exact h) (Or.inl ⟨by rfl, ?_⟩) (by assumption) ?_
        rotate_left
        · (intro w hSw; (try dsimp only at hSw); go_simp; (try with_reducible rfl))
        try simp only [Act.put, List.setIfInBounds_toArray, List.set_cons_zero, List.set_cons_succ]
        refine anyS_done (by kernel_rfl) ?_ _
        go_wp2_with fail
        go_meet
        exact ⟨rfl, below_drewN (Below.refl _ _) 1⟩
    obtain ⟨rfl, hbx⟩ := hcut
    obtain ⟨wy, rfl⟩ : ∃ wq : World, wq = wc := ⟨_, rfl⟩
    have hbz := HBW.out.trans (hbx.mono HBW.out.size)
    have hO2 := HO.out.on hbx
    cases b
    · have h2 : x < es.length → bel (es.getD x e0).1 ⟨kt, kk⟩ = false := fun hlt => by
        have := HB.out
        rw [decide_eq_true hlt, Bool.true_and] at this
        exact this.symm
      have HPL := Lib.hid (And.intro HU.out (And.intro h2 hx))
      have HE1 := Lib.hid (insE_place (v := v) HU.out h2 hx)
      have HE2 := Lib.hid (hasE_place HUP.out HU.out h2 hx)
      obtain ⟨z0, z1, z3⟩ := HX.out
      obtain ⟨b0, b1, _, _⟩ := (z1.below hbz z1.lt).two
      obtain ⟨v', w3, hrun, ho3, hb3⟩ := app_own hO2 hbz.size (by rw [List.length_take]; omega) ((⟨kt, kk⟩ : Ky), v)
      have HY := Lib.hid (And.intro (hb3 _ hbz) ho3)
      clear hbz hO2 hbx ho3 hb3 h2 z0 z1 z3
      go_upto_region 7 with (at_builtin; refine wpList_append_run rfl (.tmp 33) (.tmp 37) 31 rfl rfl rfl hrun ?_)
      clear hrun b0 b1
      obtain ⟨fr, hfr⟩ : ∃ fr, fr = !decide (x < es.length ∧ (es.getD x e0).1 = ⟨kt, kk⟩) := ⟨_, rfl⟩
      go_cut [51, 10] (fun s t wz => t = .bool fr ∧ Below w3.heap.size w3 wz)
      case first =>
        by_cases hlt : x < es.length
        · have hki : ¬ (es.length : Int) ≤ (x : Int) := by omega
          have hkj : (x : Int) < (es.length : Int) := by omega
          have hk0 : (0 : Int) ≤ (x : Int) := by omega
          obtain ⟨g, o, rfl, hcell⟩ := HA.out (by omega)
          obtain ⟨⟨⟨p1, p2⟩, pv⟩, hp⟩ : ∃ p, p = es.getD x e0 := ⟨_, rfl⟩
          obtain ⟨c0, c1, c2⟩ := getE_at (hcell w3 (HX.out.1.trans (HY.out.1.mono (by have := HX.out.2.2; omega)))) hlt hp.symm
          obtain ⟨b0, b1, _, _⟩ := (HX.out.2.1.below HY.out.1 HX.out.2.1.lt).two
          have hne := fun W => ne_dec p1 p2 kt kk (q := fr) (by rw [hfr, ← decide_not, decide_eq_decide, ← hp]; exact ⟨fun h h2 => h h2.2, fun h h2 => h ⟨hlt, h2⟩⟩) W
          clear hcell hp c2 hfr
          go_quiet (fail)
          go_wp2_with fail
          go_meet
          exact ⟨rfl, by (repeat (first | (with_reducible assumption) | (with_reducible exact Below.refl _ _) | ((with_reducible refine Below.setCell ?_ ?_ _); rotate_left; · (first | omega | (simp; done) | (simp; omega) | (simp at *; omega))) | ((with_reducible refine Below.alloc ?_ ?_ _); rotate_left; · (first | omega | (simp; done) | (simp; omega) | (simp at *; omega))) | (with_reducible refine Below.drew ?_) | (with_reducible refine below_drewN ?_ _) | ((refine Below.trans ?_ (Below.mono (by with_reducible assumption) ?_)); rotate_left; · (first | omega | (simp; done) | (simp; omega) | (simp at *; omega)))))⟩
        · obtain rfl : x = es.length := by omega
          have hki : (es.length : Int) ≤ (es.length : Int) := by omega
          obtain rfl : fr = true := by rw [hfr, decide_eq_false (fun h => hlt h.1)]; rfl
          clear hfr
          refine (wpIn_wide (n := 0)).1 ?_
          refine anyS_region (S := (fun _ => True)) 14 (by kernel_rfl) ?_ (fun hHeld => ?_)
          · trivial
          refine anyS_take (i := 0) (v := ?_) (by (simp only [List.getElem?_toArray, List.getElem?_cons_zero]); exact rfl) (by kernel_rfl) (by kernel_rfl) (by kernel_rfl) (by kernel_rfl) (by decide) (by intro _ _ _ h; exact h) (Or.inl ⟨by rfl, ?_⟩) (by assumption) ?_
          rotate_left
          · (intro w hSw; (try dsimp only at hSw); go_simp; (try with_reducible rfl))
          try simp only [Act.put, List.setIfInBounds_toArray, List.set_cons_zero, List.set_cons_succ]
          refine anyS_take (i := 1) (v := ?_) (by (simp only [List.getElem?_toArray, List.getElem?_cons_zero, List.getElem?_cons_succ]); exact rfl) (by kernel_rfl) (by kernel_rfl) (by kernel_rfl) (by kernel_rfl) (by decide) (by intro _ _ _ h; exact h) (Or.inl ⟨by rfl, ?_⟩) (by assumption) ?_
          rotate_left
          · (intro w hSw; (try dsimp only at hSw); go_simp; (try with_reducible rfl))
          try simp only [Act.put, List.setIfInBounds_toArray, List.set_cons_zero, List.set_cons_succ]
          refine anyS_take (i := 2) (v := ?_) (by (simp only [List.getElem?_toArray, List.getElem?_cons_zero, List.getElem?_cons_succ]); exact rfl) (by kernel_rfl) (by kernel_rfl) (by kernel_rfl) (by kernel_rfl) (by decide) (by intro _ _ _ h; exact h) (Or.inl ⟨by rfl, ?_⟩) (by assumption) ?_
          rotate_left
          · (intro w hSw; (try dsimp only at hSw); go_simp; (try with_reducible rfl))
          try simp only [Act.put, List.setIfInBounds_toArray, List.set_cons_zero, List.set_cons_succ]
          refine anyS_take (i := 3) (v := ?_) (by (simp only [List.getElem?_toArray, List.getElem?_cons_zero, List.getElem?_cons_succ]); exact rfl) (by kernel_rfl) (by kernel_rfl) (by kernel_rfl) (by kernel_rfl) (by decide) (by intro _ _ _ h; exact h) (Or.inl ⟨by rfl, ?_⟩) (by assumption) ?_
          rotate_left
          · (intro w hSw; (try dsimp only at hSw); go_simp; (try with_reducible rfl))
          try simp only [Act.put, List.setIfInBounds_toArray, List.set_cons_zero, List.set_cons_succ]
          refine anyS_take (i := 4) (v := ?_) (by (simp only [List.getElem?_toArray, List.getElem?_cons_zero, List.getElem?_cons_succ]); exact rfl) (by kernel_rfl) (by kernel_rfl) (by kernel_rfl) (by kernel_rfl) (by decide) (by intro _ _ _ h; exact h) (Or.inl ⟨by rfl, ?_⟩) (by assumption) ?_
          rotate_left
          · (intro w hSw; (try dsimp only at hSw); go_simp; (try with_reducible rfl))
          try simp only [Act.put, List.setIfInBounds_toArray, List.set_cons_zero, List.set_cons_succ]
          refine anyS_take (i := 5) (v := undef) (by (simp only [List.getElem?_toArray, List.getElem?_cons_zero, List.getElem?_cons_succ]); exact rfl) (by kernel_rfl) (by kernel_rfl) (by kernel_rfl) (by kernel_rfl) (by decide) (by intro _ _ _ h; exact h) (Or.inr ⟨by rfl, rfl⟩) (by assumption) ?_
          try simp only [Act.put, List.setIfInBounds_toArray, List.set_cons_zero, List.set_cons_succ]
          refine anyS_take (i := 6) (v := undef) (by (simp only [List.getElem?_toArray, List.getElem?_cons_zero, List.getElem?_cons_succ]); exact rfl) (by kernel_rfl) (by kernel_rfl) (by kernel_rfl) (by kernel_rfl) (by decide) (by intro _ _ _ h; exact h) (Or.inr ⟨by rfl, rfl⟩) (by assumption) ?_
          try simp only [Act.put, List.setIfInBounds_toArray, List.set_cons_zero, List.set_cons_succ]
          refine anyS_take (i := 7) (v := undef) (by (simp only [List.getElem?_toArray, List.getElem?_cons_zero, List.getElem?_cons_succ]); exact rfl) (by kernel_rfl) (by kernel_rfl) (by kernel_rfl) (by kernel_rfl) (by decide) (by intro _ _ _ h; exact h) (Or.inr ⟨by rfl, rfl⟩) (by assumption) ?_
          try simp only [Act.put, List.setIfInBounds_toArray, List.set_cons_zero, List.set_cons_succ]
          refine anyS_take (i := 8) (v := undef) (by (simp only [List.getElem?_toArray, List.getElem?_cons_zero, List.getElem?_cons_succ]); exact rfl) (by kernel_rfl) (by kernel_rfl) (by kernel_rfl) (by kernel_rfl) (by decide) (by intro _ _ _ h; exact h) (Or.inr ⟨by rfl, rfl⟩) (by assumption) ?_
          try simp only [Act.put, List.setIfInBounds_toArray, List.set_cons_zero, List.set_cons_succ]
          refine anyS_take (i := 9) (v := undef) (by (simp only [List.getElem?_toArray, List.getElem?_cons_zero, List.getElem?_cons_succ]); exact rfl) (by kernel_rfl) (by kernel_rfl) (by kernel_rfl) (by kernel_rfl) (by decide) (by intro _ _ _ h; exact h) (Or.inr ⟨by rfl, rfl⟩) (by assumption) ?_
          try simp only [Act.put, List.setIfInBounds_toArray, List.set_cons_zero, List.set_cons_succ]
          refine anyS_take (i := 10) (v := undef) (by (simp only [List.getElem?_toArray, List.getElem?_cons_zero, List.getElem?_cons_succ]); exact rfl) (by kernel_rfl) (by kernel_rfl) (by kernel_rfl) (by kernel_rfl) (by decide) (by intro _ _ _ h; exact h) (Or.inr ⟨by rfl, rfl⟩) (by assumption) ?_
          try simp only [Act.put, List.setIfInBounds_toArray, List.set_cons_zero, List.set_cons_succ]
          refine anyS_take (i := 11) (v := undef) (by (simp only [List.getElem?_toArray, List.getElem?_cons_zero, List.getElem?_cons_succ]); exact rfl) (by kernel_rfl) (by kernel_rfl) (by kernel_rfl) (by kernel_rfl) (by decide) (by intro _ _ _ h; exact h) (Or.inr ⟨by rfl, rfl⟩) (by assumption) ?_
          try simp only [Act.put, List.setIfInBounds_toArray, List.set_cons_zero, List.set_cons_succ]
          refine anyS_take (i := 12) (v := ?_) (by (simp only [List.getElem?_toArray, List.getElem?_cons_zero, List.getElem?_cons_succ]); exact rfl) (by kernel_rfl) (by kernel_rfl) (by kernel_rfl) (by kernel_rfl) (by decide) (by intro _ _ _ h; exact h) (Or.inl ⟨by rfl, ?_⟩) (by assumption) ?_
          rotate_left
          · (intro w hSw; (try dsimp only at hSw); go_simp; (try with_reducible rfl))
          try simp only [Act.put, List.setIfInBounds_toArray, List.set_cons_zero, List.set_cons_succ]
          refine anyS_take (i := 13) (v := ?_) (by (simp only [List.getElem?_toArray, List.getElem?_cons_zero, List.getElem?_cons_succ]); exact rfl) (by kernel_rfl) (by kernel_rfl) (by kernel_rfl) (by kernel_rfl) (by decide) (by intro _ _ _ h; exact h) (Or.inl ⟨by rfl, ?_⟩) (by assumption) ?_
          rotate_left
          · (intro w hSw; (try dsimp only at hSw); go_simp; (try with_reducible rfl))
          try simp only [Act.put, List.setIfInBounds_toArray, List.set_cons_zero, List.set_cons_succ]
          refine anyS_done (by kernel_rfl) ?_ _
          go_wp2_with fail
          go_meet
          exact ⟨rfl, below_drewN (Below.refl _ _) 1⟩
      obtain ⟨rfl, hbx⟩ := hcut
      obtain ⟨wz, rfl⟩ : ∃ wq : World, wq = wc := ⟨_, rfl⟩
      obtain ⟨z, hz⟩ : ∃ z, z = if x < es.length ∧ (es.getD x e0).1 = ⟨kt, kk⟩ then x + 1 else x := ⟨_, rfl⟩
      have hzn : z ≤ es.length := by rw [hz]; split <;> omega
      have HZ := Lib.hid (And.intro hz hfr)
      have HW := Lib.hid (And.intro (HY.out.1.trans (hbx.mono HY.out.1.size)) (HY.out.2.on hbx))
      rw [← hz] at HE1
      clear hz hfr hbx HY
      go_upto_if 53 with fail
      go_cut [9] (fun s w4 => s = .int .i64 z ∧ wz = w4)
      case first =>
        cases fr
        · have hzx : z = x + 1 := by
            have := HZ.out.2
            rw [eq_comm, Bool.not_eq_false', decide_eq_true_eq] at this
            rw [HZ.out.1, if_pos this]
          have HZX := Lib.hid hzx
          clear hzx
          go_wp2_with fail
          go_meet
          exact ⟨by rw [HZX.out]; go_num, rfl⟩
        · have hzx : z = x := by
            have := HZ.out.2
            rw [eq_comm, Bool.not_eq_true', decide_eq_false_iff_not] at this
            rw [HZ.out.1, if_neg this]
          have HZX := Lib.hid hzx
          clear hzx
          go_wp2_with fail
          go_meet
          exact ⟨by rw [HZX.out], rfl⟩
      obtain ⟨rfl, rfl⟩ := hcut
      go_wp2_with fail
      go_loopg [8, 9] (es.length - z) (fun g v' i wr => ∃ y : Nat, z ≤ y ∧ y ≤ es.length ∧ g = es.length - y ∧ i = .int .i64 y ∧ OwnE w0.heap.size wr v' ((es.take x ++ [(⟨kt, kk⟩, v)]) ++ (es.drop z).take (y - z)) ∧ Below w0.heap.size w0 wr)
      case atStart => exact ⟨z, Nat.le_refl _, hzn, rfl, rfl, by rw [Nat.sub_self, List.take_zero, List.append_nil]; exact HW.out.2, HW.out.1⟩
      case round =>
        clear HW
        obtain ⟨y, hzy, hy, rfl, rfl, hO, hbw⟩ := hrel
        by_cases hlt : y < es.length
        · have hki : (y : Int) < (es.length : Int) := by omega
          have hk0 : (0 : Int) ≤ (y : Int) := by omega
          obtain ⟨g, o, rfl, hcell⟩ := HA.out (by omega)
          obtain ⟨⟨⟨p1, p2⟩, pv⟩, hp⟩ : ∃ p, p = es.getD y e0 := ⟨_, rfl⟩
          obtain ⟨c0, c1, c2⟩ := getE_at (hcell wr (HX.out.1.trans (hbw.mono (by have := HX.out.2.2; omega)))) hlt hp.symm
          obtain ⟨v2, w5, hrun, ho3, hb3⟩ := app_own hO hbw.size (by simp only [List.length_append, List.length_take, List.length_drop, List.length_cons, List.length_nil]; omega) (⟨p1, p2⟩, pv)
          have hs := take_snoc_en (es.drop z) (y - z) (by rw [List.length_drop]; omega)
          rw [drop_getD, show y - z + z = y by omega, ← hp] at hs
          have HV := Lib.hid (And.intro (hb3 _ hbw) (show OwnE w0.heap.size w5 v2 ((es.take x ++ [(⟨kt, kk⟩, v)]) ++ (es.drop z).take (y + 1 - z)) from by rw [show y + 1 - z = y - z + 1 by omega, hs, ← List.append_assoc]; exact ho3))
          clear hO hbw hcell hp ho3 hb3 hs
          go_wp2_with (at_builtin; refine wpList_append_run rfl (.tmp 60) (.tmp 65) 31 rfl rfl rfl hrun ?_)
          go_roundg (es.length - (y + 1))
          case measure => omega
          case rel => exact ⟨y + 1, by omega, by omega, rfl, by go_num, HV.out.2, HV.out.1⟩
        · obtain rfl : y = es.length := by omega
          have hki : ¬ (es.length : Int) < (es.length : Int) := by omega
          have HV := Lib.hid (And.intro hbw hO)
          clear hbw hO
          go_wp2_with fail
          go_ret2
          have hO := HV.out.2
          rw [List.take_of_length_le (l := es.drop z) (by rw [List.length_drop]; omega), ← HE1.out] at hO
          exact ⟨_, by rw [HE2.out, ← HZ.out.2]; rfl, ⟨_, hO⟩, HX.out.1.trans (HV.out.1.mono (by have := HX.out.2.2; omega))⟩
    · have hh : x < es.length ∧ bel (es.getD x e0).1 ⟨kt, kk⟩ = true := by
        have := HB.out
        rw [eq_comm, Bool.and_eq_true, decide_eq_true_eq] at this
        exact this
      have hlt := hh.1
      have hki : (x : Int) < (es.length : Int) := by omega
      have hk0 : (0 : Int) ≤ (x : Int) := by omega
      obtain ⟨g, o, rfl, hcell⟩ := HA.out (by omega)
      obtain ⟨⟨⟨p1, p2⟩, pv⟩, hp⟩ : ∃ p, p = es.getD x e0 := ⟨_, rfl⟩
      obtain ⟨v', w3, hrun, ho3, hb3⟩ := app_own hO2 hbz.size (by rw [List.length_take]; omega) (⟨p1, p2⟩, pv)
      obtain ⟨c0, c1, c2⟩ := getE_at (hcell wy (HX.out.1.trans (hbz.mono (by have := HX.out.2.2; omega)))) hlt hp.symm
      have HY := Lib.hid (And.intro (hb3 _ hbz) (show OwnE w0.heap.size w3 v' (es.take (x + 1)) from by rw [take_snoc_en es x hlt, ← hp]; exact ho3))
      have HH := Lib.hid hh.2
      clear hbz hO2 hbx ho3 hb3 hcell hp hh
      go_wp2_with (at_builtin; refine wpList_append_run rfl (.tmp 24) (.tmp 29) 31 rfl rfl rfl hrun ?_)
      go_roundg (es.length - (x + 1))
      case measure => omega
      case rel =>
        refine ⟨x + 1, by omega, rfl, by go_num, HY.out.2, HY.out.1, fun j hj => ?_⟩
        by_cases e : j = x
        · rw [e]; exact HH.out
        · exact HU.out j (by omega)
end Go.Proofs.Ytmmikolcipcldaa
