/-
  What is proved here: the builder of a tree in memory; it takes a key in its order (the builder's take). Conditions: each theorem's own.
-/
import Derived.Test.YtmmikolcipcldaaTreeVis
import Derived.Test.YtmmikolcipcldaaFHeld
import Derived.TacticsInMore
namespace Go.Proofs.Ytmmikolcipcldaa
open Go.RowKit Go.Deep

/-- what a builder has come to. -/
structure BdS where
  seen : List Bool
  leaves : Nat
  last : Ky
  count : Nat
  wrong : Bool
def BdS.take (S : BdS) (k : Ky) : BdS := { S with wrong := S.wrong || (decide (0 < S.count) && !bel S.last k), last := k, count := S.count + 1 }
/-- a builder in memory: its block b, its list of flags at sb. -/
structure BdAt (W : World) (b sb d : Nat) (lv : Value) (S : BdS) : Prop where
  blk : Blk W b 91 #[lv, .slice (some ⟨sb, 0, none⟩) S.seen.length S.seen.length, .int .i64 d, .int .i64 S.leaves, .int .i64 S.last.t, .int .i64 S.last.s, .int .i64 S.count, .bool S.wrong]
  row : Blk W sb 4 (S.seen.map Value.bool).toArray
theorem BdAt.below {W W' : World} {b sb d : Nat} {lv : Value} {S : BdS} (h : BdAt W b sb d lv S) (hb : Below W.heap.size W W') : BdAt W' b sb d lv S := ⟨h.blk.below hb h.blk.lt, h.row.below hb h.row.lt⟩
theorem BdAt.touch {W W' : World} {b sb d : Nat} {lv : Value} {S : BdS} {L : List Nat} (h : BdAt W b sb d lv S) (k : Touch W W' L) (h1 : b ∉ L) (h2 : sb ∉ L) : BdAt W' b sb d lv S := ⟨h.blk.touch k h1, h.row.touch k h2⟩
theorem BdAt.ne {W : World} {b sb d : Nat} {lv : Value} {S : BdS} (h : BdAt W b sb d lv S) : sb ≠ b := fun e => by
  have h1 := h.row
  rw [e] at h1
  exact absurd (blk_type h.blk h1) (by decide)

set_option maxRecDepth 100000 in
set_option maxHeartbeats 1000000 in
theorem take_any {W : World} {b sb d : Nat} {lv : Value} {S : BdS} (k : Ky) (h : BdAt W b sb d lv S) (hc : S.count ≤ 1000000000) :
    Calls Try.prog 53 #[.pointer (some ⟨b, 0, none⟩), .agg #[.int .i64 k.t, .int .i64 k.s]] W fun e w' => e = .returned (.tuple #[]) ∧ BdAt w' b sb d lv (S.take k) ∧ Touch W w' [b] := by
  obtain ⟨kt, kk⟩ := k
  obtain ⟨seen, leaves, ⟨lt, ls⟩, count, wrong⟩ := S
  replace hc : count ≤ 1000000000 := hc
  have hb0 : Below W.heap.size W (W.alloc (.cells #[.int .i64 kt, .int .i64 kk] 24)) := (Below.refl _ _).alloc (Nat.le_refl _) _
  have hk := Blk.new W 24 #[.int .i64 kt, .int .i64 kk]
  go_enter Try.func53, Try.ntmps53
  go_upto_region 1 with fail
  obtain ⟨w0, hw0⟩ : ∃ w0 : World, w0 = W.alloc (.cells #[.int .i64 kt, .int .i64 kk] 24) := ⟨_, rfl⟩
  rw [← hw0] at hb0 hk ⊢
  have HS := Lib.hid (show ∀ X, Below w0.heap.size w0 X → (X.cell? ⟨b, 4, none⟩ = some (.int .i64 lt) ∧ X.cell? ⟨b, 5, none⟩ = some (.int .i64 ls) ∧ X.cell? ⟨b, 6, none⟩ = some (.int .i64 count) ∧ X.cell? ⟨W.heap.size, 0, none⟩ = some (.int .i64 kt) ∧ X.cell? ⟨W.heap.size, 1, none⟩ = some (.int .i64 kk)) from fun X hb => by
    have hX := (h.below hb0).below hb
    have hkX := hk.below hb hk.lt
    exact ⟨hX.blk.cell 4, hX.blk.cell 5, hX.blk.cell 6, hkX.cell 0, hkX.cell 1⟩)
  have H0 := Lib.hid (And.intro hb0 (And.intro hk h))
  clear hw0 hb0 hk h
  obtain ⟨q, hq⟩ : ∃ q, q = (decide (0 < count) && !bel ⟨lt, ls⟩ ⟨kt, kk⟩) := ⟨_, rfl⟩
  have HQ := Lib.hid hq
  clear hq
  go_cut [17] (fun s wz => s = .bool q ∧ Below w0.heap.size w0 wz)
  case first =>
    by_cases h0 : 0 < count
    · have hpos : (0 : Int) < (count : Int) := by omega
      obtain ⟨r, hr⟩ : ∃ r, r = bel ⟨lt, ls⟩ ⟨kt, kk⟩ := ⟨_, rfl⟩
      have HR1 := Lib.hid (show ∀ X, Calls Try.prog 51 #[.agg #[.int .i64 lt, .int .i64 ls], .agg #[.int .i64 kt, .int .i64 kk]] X fun e w' => e = .returned (.bool r) ∧ Below X.heap.size X w' from fun X => (below_any ⟨lt, ls⟩ ⟨kt, kk⟩ X).mono fun e w' h => ⟨by rw [h.1, hr], h.2⟩)
      obtain rfl : q = !r := by rw [HQ.out, decide_eq_true h0, Bool.true_and, hr]
      clear hr
      refine (wpIn_wide (n := 0)).1 ?_
      refine anyS_region (S := (fun X => X.cell? ⟨b, 4, none⟩ = some (.int .i64 lt) ∧ X.cell? ⟨b, 5, none⟩ = some (.int .i64 ls) ∧ X.cell? ⟨b, 6, none⟩ = some (.int .i64 count) ∧ X.cell? ⟨W.heap.size, 0, none⟩ = some (.int .i64 kt) ∧ X.cell? ⟨W.heap.size, 1, none⟩ = some (.int .i64 kk))) 14 (by kernel_rfl) ?_ (fun hHeld => ?_)
      · exact HS.out _ (below_drewN (Below.refl _ _) 1)
      refine anyS_take (i := 0) (v := ?_) (by (simp only [List.getElem?_toArray, List.getElem?_cons_zero]); exact rfl) (by kernel_rfl) (by kernel_rfl) (by kernel_rfl) (by kernel_rfl) (by decide) (by intro _ _ _ h; exact h) (Or.inl ⟨by rfl, ?_⟩) (by assumption) ?_
      rotate_left
      · (intro w hSw; (try dsimp only at hSw); go_simp; (try with_reducible rfl))
      try simp only [Act.put, List.setIfInBounds_toArray, List.set_cons_zero, List.set_cons_succ]
      refine anyS_take (i := 1) (v := ?_) (by (simp only [List.getElem?_toArray, List.getElem?_cons_zero, List.getElem?_cons_succ]); exact rfl) (by kernel_rfl) (by kernel_rfl) (by kernel_rfl) (by kernel_rfl) (by decide) (by intro _ _ _ h; exact h) (Or.inl ⟨by rfl, ?_⟩) (by assumption) ?_
      rotate_left
      · (intro w hSw; (try dsimp only at hSw); go_simp; (try with_reducible rfl))
      try simp only [Act.put, List.setIfInBounds_toArray, List.set_cons_zero, List.set_cons_succ]
      refine anyS_take (i := 2) (v := ?_) (by (simp only [List.getElem?_toArray, List.getElem?_cons_zero, List.getElem?_cons_succ]); exact rfl) (by kernel_rfl) (by kernel_rfl) (by kernel_rfl) (by kernel_rfl) (by decide) (by intro _ _ _ h; exact h) (Or.inl ⟨by rfl, ?_⟩) (by assumption) ?_
      rotate_left
      · (intro w hSw; (try dsimp only at hSw); go_simp; (try with_reducible rfl))
      try simp only [Act.put, List.setIfInBounds_toArray, List.set_cons_zero, List.set_cons_succ]
      refine anyS_take (i := 3) (v := ?_) (by (simp only [List.getElem?_toArray, List.getElem?_cons_zero, List.getElem?_cons_succ]); exact rfl) (by kernel_rfl) (by kernel_rfl) (by kernel_rfl) (by kernel_rfl) (by decide) (by intro _ _ _ h; exact h) (Or.inl ⟨by rfl, ?_⟩) (by assumption) ?_
      rotate_left
      · (intro w hSw; (try dsimp only at hSw); go_simp; (try with_reducible rfl))
      try simp only [Act.put, List.setIfInBounds_toArray, List.set_cons_zero, List.set_cons_succ]
      refine anyS_take (i := 4) (v := ?_) (by (simp only [List.getElem?_toArray, List.getElem?_cons_zero, List.getElem?_cons_succ]); exact rfl) (by kernel_rfl) (by kernel_rfl) (by kernel_rfl) (by kernel_rfl) (by decide) (by intro _ _ _ h; exact h) (Or.inl ⟨by rfl, ?_⟩) (by assumption) ?_
      rotate_left
      · (intro w hSw; (try dsimp only at hSw); go_simp; (try with_reducible rfl))
      try simp only [Act.put, List.setIfInBounds_toArray, List.set_cons_zero, List.set_cons_succ]
      refine anyS_take (i := 5) (v := ?_) (by (simp only [List.getElem?_toArray, List.getElem?_cons_zero, List.getElem?_cons_succ]); exact rfl) (by kernel_rfl) (by kernel_rfl) (by kernel_rfl) (by kernel_rfl) (by decide) (by intro _ _ _ h; exact h) (Or.inl ⟨by rfl, ?_⟩) (by assumption) ?_
      rotate_left
      · (intro w hSw; (try dsimp only at hSw); go_simp; (try with_reducible rfl))
      try simp only [Act.put, List.setIfInBounds_toArray, List.set_cons_zero, List.set_cons_succ]
      refine anyS_take (i := 6) (v := ?_) (by (simp only [List.getElem?_toArray, List.getElem?_cons_zero, List.getElem?_cons_succ]); exact rfl) (by kernel_rfl) (by kernel_rfl) (by kernel_rfl) (by kernel_rfl) (by decide) (by intro _ _ _ h; exact h) (Or.inl ⟨by rfl, ?_⟩) (by assumption) ?_
      rotate_left
      · (intro w hSw; (try dsimp only at hSw); go_simp; (try with_reducible rfl))
      try simp only [Act.put, List.setIfInBounds_toArray, List.set_cons_zero, List.set_cons_succ]
      refine anyS_take (i := 7) (v := ?_) (by (simp only [List.getElem?_toArray, List.getElem?_cons_zero, List.getElem?_cons_succ]); exact rfl) (by kernel_rfl) (by kernel_rfl) (by kernel_rfl) (by kernel_rfl) (by decide) (by intro _ _ _ h; exact h) (Or.inl ⟨by rfl, ?_⟩) (by assumption) ?_
      rotate_left
      · (intro w hSw; (try dsimp only at hSw); go_simp; (try with_reducible rfl))
      try simp only [Act.put, List.setIfInBounds_toArray, List.set_cons_zero, List.set_cons_succ]
      refine anyS_take (i := 8) (v := ?_) (by (simp only [List.getElem?_toArray, List.getElem?_cons_zero, List.getElem?_cons_succ]); exact rfl) (by kernel_rfl) (by kernel_rfl) (by kernel_rfl) (by kernel_rfl) (by decide) (by intro _ _ _ h; exact h) (Or.inl ⟨by rfl, ?_⟩) (by assumption) ?_
      rotate_left
      · (intro w hSw; (try dsimp only at hSw); go_simp; (try with_reducible rfl))
      try simp only [Act.put, List.setIfInBounds_toArray, List.set_cons_zero, List.set_cons_succ]
      refine anyS_take (i := 9) (v := ?_) (by (simp only [List.getElem?_toArray, List.getElem?_cons_zero, List.getElem?_cons_succ]); exact rfl) (by kernel_rfl) (by kernel_rfl) (by kernel_rfl) (by kernel_rfl) (by decide) (by intro _ _ _ h; exact h) (Or.inl ⟨by rfl, ?_⟩) (by assumption) ?_
      rotate_left
      · (intro w hSw; (try dsimp only at hSw); go_simp; (try with_reducible rfl))
      try simp only [Act.put, List.setIfInBounds_toArray, List.set_cons_zero, List.set_cons_succ]
      refine anyS_take (i := 10) (v := ?_) (by (simp only [List.getElem?_toArray, List.getElem?_cons_zero, List.getElem?_cons_succ]); exact rfl) (by kernel_rfl) (by kernel_rfl) (by kernel_rfl) (by kernel_rfl) (by decide) (by intro _ _ _ h; exact h) (Or.inl ⟨by rfl, ?_⟩) (by assumption) ?_
      rotate_left
      · (intro w hSw; (try dsimp only at hSw); go_simp; (try with_reducible rfl))
      try simp only [Act.put, List.setIfInBounds_toArray, List.set_cons_zero, List.set_cons_succ]
      refine anyS_only (i := 11) (by kernel_rfl) (by decide) (by (simp only [List.getElem?_toArray, List.getElem?_cons_zero, List.getElem?_cons_succ]); exact rfl) (by rfl) (fun K hK => ?_)
      go_simp
      refine ⟨trivial, rfl, ?_⟩
      gi_at_call 51
      refine (callsIn_wide.2 (HR1.out _)).mono ?_
      rintro e wk ⟨rfl, hbk⟩
      have hBL : Below w0.heap.size w0 wk := Below.trans (below_drewN (Below.refl _ _) 1) hbk
      refine hK.out _ _ ?_ (fun hHeld => ?_)
      · exact HS.out _ hBL
      clear hK K
      try simp only [Act.put, List.setIfInBounds_toArray, List.set_cons_zero, List.set_cons_succ]
      refine anyS_take (i := 12) (v := ?_) (by (simp only [List.getElem?_toArray, List.getElem?_cons_zero, List.getElem?_cons_succ]); exact rfl) (by kernel_rfl) (by kernel_rfl) (by kernel_rfl) (by kernel_rfl) (by decide) (by intro _ _ _ h; exact h) (Or.inl ⟨by rfl, ?_⟩) (by assumption) ?_
      rotate_left
      · (intro w hSw; (try dsimp only at hSw); go_simp; (try with_reducible rfl))
      try simp only [Act.put, List.setIfInBounds_toArray, List.set_cons_zero, List.set_cons_succ]
      refine anyS_take (i := 13) (v := ?_) (by (simp only [List.getElem?_toArray, List.getElem?_cons_zero, List.getElem?_cons_succ]); exact rfl) (by kernel_rfl) (by kernel_rfl) (by kernel_rfl) (by kernel_rfl) (by decide) (by intro _ _ _ h; exact h) (Or.inl ⟨by rfl, ?_⟩) (by assumption) ?_
      rotate_left
      · (intro w hSw; (try dsimp only at hSw); go_simp; (try with_reducible rfl))
      try simp only [Act.put, List.setIfInBounds_toArray, List.set_cons_zero, List.set_cons_succ]
      refine anyS_done (by kernel_rfl) ?_ _
      go_wp2_with fail
      go_meet
      exact ⟨rfl, hBL⟩
    · have hpos : ¬ (0 : Int) < (count : Int) := by omega
      obtain rfl : q = false := by rw [HQ.out, decide_eq_false h0, Bool.false_and]
      refine (wpIn_wide (n := 0)).1 ?_
      refine anyS_region (S := (fun X => X.cell? ⟨b, 4, none⟩ = some (.int .i64 lt) ∧ X.cell? ⟨b, 5, none⟩ = some (.int .i64 ls) ∧ X.cell? ⟨b, 6, none⟩ = some (.int .i64 count) ∧ X.cell? ⟨W.heap.size, 0, none⟩ = some (.int .i64 kt) ∧ X.cell? ⟨W.heap.size, 1, none⟩ = some (.int .i64 kk))) 14 (by kernel_rfl) ?_ (fun hHeld => ?_)
      · exact HS.out _ (below_drewN (Below.refl _ _) 1)
      refine anyS_take (i := 0) (v := ?_) (by (simp only [List.getElem?_toArray, List.getElem?_cons_zero]); exact rfl) (by kernel_rfl) (by kernel_rfl) (by kernel_rfl) (by kernel_rfl) (by decide) (by intro _ _ _ h; exact h) (Or.inl ⟨by rfl, ?_⟩) (by assumption) ?_
      rotate_left
      · (intro w hSw; (try dsimp only at hSw); go_simp; (try with_reducible rfl))
      try simp only [Act.put, List.setIfInBounds_toArray, List.set_cons_zero, List.set_cons_succ]
      refine anyS_take (i := 1) (v := ?_) (by (simp only [List.getElem?_toArray, List.getElem?_cons_zero, List.getElem?_cons_succ]); exact rfl) (by kernel_rfl) (by kernel_rfl) (by kernel_rfl) (by kernel_rfl) (by decide) (by intro _ _ _ h; exact h) (Or.inl ⟨by rfl, ?_⟩) (by assumption) ?_
      rotate_left
      · (intro w hSw; (try dsimp only at hSw); go_simp; (try with_reducible rfl))
      try simp only [Act.put, List.setIfInBounds_toArray, List.set_cons_zero, List.set_cons_succ]
      refine anyS_take (i := 2) (v := ?_) (by (simp only [List.getElem?_toArray, List.getElem?_cons_zero, List.getElem?_cons_succ]); exact rfl) (by kernel_rfl) (by kernel_rfl) (by kernel_rfl) (by kernel_rfl) (by decide) (by intro _ _ _ h; exact h) (Or.inl ⟨by rfl, ?_⟩) (by assumption) ?_
      rotate_left
      · (intro w hSw; (try dsimp only at hSw); go_simp; (try with_reducible rfl))
      try simp only [Act.put, List.setIfInBounds_toArray, List.set_cons_zero, List.set_cons_succ]
      refine anyS_take (i := 3) (v := ?_) (by (simp only [List.getElem?_toArray, List.getElem?_cons_zero, List.getElem?_cons_succ]); exact rfl) (by kernel_rfl) (by kernel_rfl) (by kernel_rfl) (by kernel_rfl) (by decide) (by intro _ _ _ h; exact h) (Or.inl ⟨by rfl, ?_⟩) (by assumption) ?_
      rotate_left
      · (intro w hSw; (try dsimp only at hSw); go_simp; (try with_reducible rfl))
      try simp only [Act.put, List.setIfInBounds_toArray, List.set_cons_zero, List.set_cons_succ]
      refine anyS_take (i := 4) (v := ?_) (by (simp only [List.getElem?_toArray, List.getElem?_cons_zero, List.getElem?_cons_succ]); exact rfl) (by kernel_rfl) (by kernel_rfl) (by kernel_rfl) (by kernel_rfl) (by decide) (by intro _ _ _ h; exact h) (Or.inl ⟨by rfl, ?_⟩) (by assumption) ?_
      rotate_left
      · (intro w hSw; (try dsimp only at hSw); go_simp; (try with_reducible rfl))
      try simp only [Act.put, List.setIfInBounds_toArray, List.set_cons_zero, List.set_cons_succ]
      refine anyS_take (i := 5) (v := ?_) (by (simp only [List.getElem?_toArray, List.getElem?_cons_zero, List.getElem?_cons_succ]); exact rfl) (by kernel_rfl) (by kernel_rfl) (by kernel_rfl) (by kernel_rfl) (by decide) (by intro _ _ _ h; exact h) (Or.inl ⟨by rfl, ?_⟩) (by assumption) ?_
      rotate_left
      · (intro w hSw; (try dsimp only at hSw); go_simp; (try with_reducible rfl))
      try simp only [Act.put, List.setIfInBounds_toArray, List.set_cons_zero, List.set_cons_succ]
      refine anyS_take (i := 6) (v := undef) (by (simp only [List.getElem?_toArray, List.getElem?_cons_zero, List.getElem?_cons_succ]); exact rfl) (by kernel_rfl) (by kernel_rfl) (by kernel_rfl) (by kernel_rfl) (by decide) (by intro _ _ _ h; exact h) (Or.inr ⟨by rfl, rfl⟩) (by assumption) ?_
      try simp only [Act.put, List.setIfInBounds_toArray, List.set_cons_zero, List.set_cons_succ]
      refine anyS_take (i := 7) (v := undef) (by (simp only [List.getElem?_toArray, List.getElem?_cons_zero, List.getElem?_cons_succ]); exact rfl) (by kernel_rfl) (by kernel_rfl) (by kernel_rfl) (by kernel_rfl) (by decide) (by intro _ _ _ h; exact h) (Or.inr ⟨by rfl, rfl⟩) (by assumption) ?_
      try simp only [Act.put, List.setIfInBounds_toArray, List.set_cons_zero, List.set_cons_succ]
      refine anyS_take (i := 8) (v := undef) (by (simp only [List.getElem?_toArray, List.getElem?_cons_zero, List.getElem?_cons_succ]); exact rfl) (by kernel_rfl) (by kernel_rfl) (by kernel_rfl) (by kernel_rfl) (by decide) (by intro _ _ _ h; exact h) (Or.inr ⟨by rfl, rfl⟩) (by assumption) ?_
      try simp only [Act.put, List.setIfInBounds_toArray, List.set_cons_zero, List.set_cons_succ]
      refine anyS_take (i := 9) (v := undef) (by (simp only [List.getElem?_toArray, List.getElem?_cons_zero, List.getElem?_cons_succ]); exact rfl) (by kernel_rfl) (by kernel_rfl) (by kernel_rfl) (by kernel_rfl) (by decide) (by intro _ _ _ h; exact h) (Or.inr ⟨by rfl, rfl⟩) (by assumption) ?_
      try simp only [Act.put, List.setIfInBounds_toArray, List.set_cons_zero, List.set_cons_succ]
      refine anyS_take (i := 10) (v := undef) (by (simp only [List.getElem?_toArray, List.getElem?_cons_zero, List.getElem?_cons_succ]); exact rfl) (by kernel_rfl) (by kernel_rfl) (by kernel_rfl) (by kernel_rfl) (by decide) (by intro _ _ _ h; exact h) (Or.inr ⟨by rfl, rfl⟩) (by assumption) ?_
      try simp only [Act.put, List.setIfInBounds_toArray, List.set_cons_zero, List.set_cons_succ]
      refine anyS_take (i := 11) (v := undef) (by (simp only [List.getElem?_toArray, List.getElem?_cons_zero, List.getElem?_cons_succ]); exact rfl) (by kernel_rfl) (by kernel_rfl) (by kernel_rfl) (by kernel_rfl) (by decide) (by intro _ _ _ h; exact h) (Or.inr ⟨by rfl, rfl⟩) (by assumption) ?_
      try simp only [Act.put, List.setIfInBounds_toArray, List.set_cons_zero, List.set_cons_succ]
      refine anyS_take (i := 12) (v := undef) (by (simp only [List.getElem?_toArray, List.getElem?_cons_zero, List.getElem?_cons_succ]); exact rfl) (by kernel_rfl) (by kernel_rfl) (by kernel_rfl) (by kernel_rfl) (by decide) (by intro _ _ _ h; exact h) (Or.inr ⟨by rfl, rfl⟩) (by assumption) ?_
      try simp only [Act.put, List.setIfInBounds_toArray, List.set_cons_zero, List.set_cons_succ]
      refine anyS_take (i := 13) (v := ?_) (by (simp only [List.getElem?_toArray, List.getElem?_cons_zero, List.getElem?_cons_succ]); exact rfl) (by kernel_rfl) (by kernel_rfl) (by kernel_rfl) (by kernel_rfl) (by decide) (by intro _ _ _ h; exact h) (Or.inl ⟨by rfl, ?_⟩) (by assumption) ?_
      rotate_left
      · (intro w hSw; (try dsimp only at hSw); go_simp; (try with_reducible rfl))
      try simp only [Act.put, List.setIfInBounds_toArray, List.set_cons_zero, List.set_cons_succ]
      refine anyS_done (by kernel_rfl) ?_ _
      go_wp2_with fail
      go_meet
      exact ⟨rfl, below_drewN (Below.refl _ _) 1⟩
  obtain ⟨rfl, hbx⟩ := hcut
  obtain ⟨wy, rfl⟩ : ∃ wq : World, wq = wc := ⟨_, rfl⟩
  have hB := (H0.out.2.2.below H0.out.1).below hbx
  obtain ⟨_, _, c6, k0, k1⟩ := HS.out wy hbx
  have hkY := H0.out.2.1.below hbx H0.out.2.1.lt
  have hT : Touch W wy [b] := (Touch.of_below H0.out.1 _).trans (Touch.of_below hbx _)
  have hwc : IntKind.i64.wrap ((count : Int) + 1) = (count : Int) + 1 := IntWalk.i64_in _ (by omega)
  have hbk : W.heap.size ≠ b := fun e => by have h1 := H0.out.2.1; rw [e] at h1; exact absurd (blk_type h1 (H0.out.2.2.below H0.out.1).blk) (by decide)
  have f4 := hB.blk.frozen 4
  have f5 := hB.blk.frozen 5
  have f6 := hB.blk.frozen 6
  have f7 := hB.blk.frozen 7
  have b4 := hB.blk.cell 4
  have b5 := hB.blk.cell 5
  have b6 := hB.blk.cell 6
  have b7 := hB.blk.cell 7
  have HB := Lib.hid hB
  have HTT := Lib.hid hT
  clear hB hT
  have hne : sb ∉ [b] := by rw [List.mem_singleton]; exact HB.out.ne
  have hcast : ((count + 1 : Nat) : Int) = (count : Int) + 1 := by omega
  have HCAST := Lib.hid hcast
  clear hcast
  cases q
  · go_wp2_with fail
    go_end0
    have k2 : Touch wy (((wy.setCell ⟨b, 4, none⟩ (.int .i64 kt)).setCell ⟨b, 5, none⟩ (.int .i64 kk)).setCell ⟨b, 6, none⟩ (.int .i64 ((count : Int) + 1))) [b] := ((Touch.set _ ⟨b, 4, none⟩ _ _ (by simp)).trans (Touch.set _ ⟨b, 5, none⟩ _ _ (by simp))).trans (Touch.set _ ⟨b, 6, none⟩ _ _ (by simp))
    refine ⟨rfl, ⟨?_, HB.out.row.touch k2 hne⟩, HTT.out.trans k2⟩
    have := ((HB.out.blk.set_ 4 (.int .i64 kt)).set_ 5 (.int .i64 kk)).set_ 6 (.int .i64 ((count : Int) + 1))
    show Blk _ b _ #[lv, _, _, _, .int .i64 kt, .int .i64 kk, .int .i64 ((count + 1 : Nat) : Int), .bool (wrong || _)]
    rw [HCAST.out, ← HQ.out, Bool.or_false]
    exact this
  · go_wp2_with fail
    go_end0
    have k2 : Touch wy ((((wy.setCell ⟨b, 7, none⟩ (.bool true)).setCell ⟨b, 4, none⟩ (.int .i64 kt)).setCell ⟨b, 5, none⟩ (.int .i64 kk)).setCell ⟨b, 6, none⟩ (.int .i64 ((count : Int) + 1))) [b] := (((Touch.set _ ⟨b, 7, none⟩ _ _ (by simp)).trans (Touch.set _ ⟨b, 4, none⟩ _ _ (by simp))).trans (Touch.set _ ⟨b, 5, none⟩ _ _ (by simp))).trans (Touch.set _ ⟨b, 6, none⟩ _ _ (by simp))
    refine ⟨rfl, ⟨?_, HB.out.row.touch k2 hne⟩, HTT.out.trans k2⟩
    have := (((HB.out.blk.set_ 7 (.bool true)).set_ 4 (.int .i64 kt)).set_ 5 (.int .i64 kk)).set_ 6 (.int .i64 ((count : Int) + 1))
    show Blk _ b _ #[lv, _, _, _, .int .i64 kt, .int .i64 kk, .int .i64 ((count + 1 : Nat) : Int), .bool (wrong || _)]
    rw [HCAST.out, ← HQ.out, Bool.or_true]
    exact this
end Go.Proofs.Ytmmikolcipcldaa
