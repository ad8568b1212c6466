/-
  What is proved here: a tree's range goes over its entries in order, from a key on, ahead of another (chapter 15). Conditions: each theorem's own.
-/
import Derived.Test.YtmmikolcipcldaaTreeLaws
import Derived.Test.YtmmikolcipcldaaTreePlace
import Derived.Test.YtmmikolcipcldaaFHeld
import Derived.RangeFuncNested
import Derived.RangeFuncBound
import Derived.RangeFuncCalls
import Derived.RangeFuncLeaves
import Derived.Shelf.Abstract
import Derived.Shelf.RegionOpen
import Derived.WalkKit
import Derived.OwnWalkIn
import Derived.TacticsInMore
import Derived.LoopNIn
import Derived.LoopIn
import Derived.Sort.CutIn
import Derived.Sort.QuietIn
namespace Go.Proofs.Ytmmikolcipcldaa
open Go.RowKit Go.Deep
attribute [local go_sem] Oper.semAt_some

/-- What a round that goes on keeps: whatever is no row of entries and no variable that holds one. -/
structure Kept (W W' : World) : Prop where
  os : W'.os = W.os
  tape : W'.tape = W.tape
  output : W'.output = W.output
  size : W.heap.size ≤ W'.heap.size
  block : ∀ (k : Nat) (cs : Array Value) (t : TypeId) (fr : Nat × Nat), W.heap[k]? = some (Obj.cells cs t fr) → t ≠ 31 → t ≠ 44 → W'.heap[k]? = W.heap[k]?
theorem Kept.refl (W : World) : Kept W W := ⟨rfl, rfl, rfl, Nat.le_refl _, fun _ _ _ _ _ _ _ => rfl⟩
theorem Kept.trans {A B C : World} (h : Kept A B) (k : Kept B C) : Kept A C :=
  ⟨k.os.trans h.os, k.tape.trans h.tape, k.output.trans h.output, Nat.le_trans h.size k.size, fun i cs t fr hi h1 h2 => by
    have e := h.block i cs t fr hi h1 h2
    exact (k.block i cs t fr (e.trans hi) h1 h2).trans e⟩
theorem kept_b (W : World) (l : Nat) (o o' : Obj) (h : W.heap[l]? = some o) (ho : o.isCells = false) : Kept W (W.putObj l o') :=
  ⟨rfl, rfl, rfl, by simp, fun k _ _ _ hk _ _ => World.putObj_heap_other (fun e => by subst e; rw [h] at hk; cases hk; cases ho)⟩
theorem Below.kept {W W' : World} (h : Below W.heap.size W W') : Kept W W' :=
  ⟨h.os, h.tape, h.output, h.size, fun k _ _ _ hk _ _ => h.block k (Array.getElem?_eq_some_iff.1 hk).1⟩
theorem Kept.blk {W W' : World} (h : Kept W W') {g : Nat} {t : TypeId} {cs : Array Value} (hb : Blk W g t cs) (h1 : t ≠ 31) (h2 : t ≠ 44) : Blk W' g t cs := (h.block g cs t (0, 0) hb h1 h2).trans hb
theorem Kept.row {W W' : World} (h : Kept W W') {g : Nat} {t : TypeId} {size n c : Nat} {xs : List Value} (hr : RowAt W g t size n c xs) (h1 : t ≠ 31) (h2 : t ≠ 44) : RowAt W' g t size n c xs :=
  ⟨hr.1, hr.2.1, fun hc => by obtain ⟨cur, a, b, c⟩ := hr.2.2 hc; exact ⟨cur, (h.block g cur t (0, 0) a h1 h2).trans a, b, c⟩⟩
theorem Kept.page {W W' : World} (h : Kept W W') {p : Nat} {P : Pg} (hp : PageAt W p P) : PageAt W' p P :=
  ⟨h.blk hp.blk (by decide) (by decide), h.row hp.keys (by decide) (by decide), h.row hp.vals (by decide) (by decide), h.row hp.kids (by decide) (by decide)⟩

/-- what a range reads: the pages, its ends, itself, the caller's round. -/
structure Env (M : Nat → Option Pg) (l fb ob tb yb : Nat) (a b : Ky) (W : World) : Prop where
  page : ∀ {p P}, M p = some P → PageAt W p P
  cf : Blk W fb 24 a.cells
  ct : Blk W tb 24 b.cells
  co : Blk W ob 102 #[.func (.func 50) #[] #[.pointer (some ⟨fb, 0, none⟩), .pointer (some ⟨ob, 0, none⟩), .pointer (some ⟨tb, 0, none⟩), .pointer (some ⟨yb, 0, none⟩)]]
  cy : Blk W yb 68 #[.func (.yield l) #[] #[]]
section
variable {M : Nat → Option Pg} {l fb ob tb yb : Nat} {a b : Ky} {W W' : World}
theorem Env.kept (h : Env M l fb ob tb yb a b W) (k : Kept W W') : Env M l fb ob tb yb a b W' :=
  ⟨fun hp => k.page (h.page hp), k.blk h.cf (by decide) (by decide), k.blk h.ct (by decide) (by decide), k.blk h.co (by decide) (by decide), k.blk h.cy (by decide) (by decide)⟩
theorem Env.drewN (h : Env M l fb ob tb yb a b W) (n : Nat) : Env M l fb ob tb yb a b (W.drewN n) :=
  ⟨fun hp => (h.page hp).drewN n, h.cf, h.ct, h.co, h.cy⟩
end
def encE (x : En) : Array Value := #[.agg x.1.cells, .int .i64 x.2]

section
variable (M : Nat → Option Pg) (l fb ob tb yb : Nat) (a b : Ky) (J Jx : List En → World → Prop)
/-- it was cut short. -/
def OutF (pre es : List En) (W' : World) : Prop := (¬ AllTill b (From a es) ∧ J (pre ++ ranged a b es) W') ∨ ∃ q, q <+: ranged a b es ∧ Jx (pre ++ q) W'
/-- all have come. -/
def OutT (pre es : List En) (W' : World) : Prop := AllTill b (From a es) ∧ J (pre ++ From a es) W' ∧ Env M l fb ob tb yb a b W'
def OutP (pre es : List En) (e : Ending) (W' : World) : Prop := (e = .returned (.bool true) ∧ OutT M l fb ob tb yb a b J pre es W') ∨ (e = .returned (.bool false) ∧ OutF a b J Jx pre es W')
/-- what has come, and what the range reads. -/
structure Gd (pre : List En) (W : World) : Prop where
  env : Env M l fb ob tb yb a b W
  j : J pre W
end
section
variable {M : Nat → Option Pg} {l fb ob tb yb : Nat} {a b : Ky} {J Jx : List En → World → Prop}
theorem Gd.below (hJ : ∀ pre W W', J pre W → Below W.heap.size W W' → J pre W') {pre : List En} {W W' : World} (h : Gd M l fb ob tb yb a b J pre W) (hb : Below W.heap.size W W') : Gd M l fb ob tb yb a b J pre W' :=
  ⟨h.env.kept (Below.kept hb), hJ _ _ _ h.j hb⟩
theorem OutF.left {pre x r : List En} {W : World} (h0 : AllTill b (From a pre)) {p0 : List En} (h : OutF a b J Jx (p0 ++ From a pre) x W) : OutF a b J Jx p0 (pre ++ (x ++ r)) W := by
  rcases h with ⟨h1, h2⟩ | ⟨q, hq, hx⟩
  · left
    refine ⟨fun hall => h1 (fun e he => hall e (by rw [From_app, From_app]; simp [he])), ?_⟩
    unfold ranged at h2 ⊢
    rw [From_app, From_app, till_app h0, till_stop h1, ← List.append_assoc]
    exact h2
  · right
    refine ⟨From a pre ++ q, ?_, by rw [← List.append_assoc]; exact hx⟩
    unfold ranged at hq ⊢
    rw [From_app, From_app, till_app h0]
    refine (List.prefix_append_right_inj _).2 (hq.trans ?_)
    by_cases hall : AllTill b (From a x)
    · rw [till_app hall, till_all hall]; exact List.prefix_append _ _
    · rw [till_stop hall]; exact List.prefix_refl _
theorem ranged_at {es A r : List En} {x : En} (he : es = A ++ (x :: r)) (hA : AllTill b (From a A)) (hf : bel x.1 a = false) : ranged a b es = From a A ++ till b (x :: From a r) ∧ (x ∈ From a es) := by
  have h1 : From a (x :: r) = x :: From a r := by unfold From; rw [List.filter_cons_of_pos (by rw [hf]; rfl)]
  refine ⟨?_, ?_⟩
  · unfold ranged
    rw [he, From_app, till_app hA, h1]
  · rw [he, From_app, h1]
    simp
theorem till_yes {k : Ky} {x : En} {r : List En} (h : bel x.1 k = true) : till k (x :: r) = x :: till k r := by unfold till; rw [List.takeWhile_cons_of_pos (by simpa using h)]
theorem till_no {k : Ky} {x : En} {r : List En} (h : bel x.1 k = false) : till k (x :: r) = [] := by unfold till; rw [List.takeWhile_cons_of_neg (by simpa using h)]
theorem room_left {x r pre : List En} (h0 : AllTill b (From a pre)) : (From a pre).length + (ranged a b x).length ≤ (ranged a b (pre ++ (x ++ r))).length := by
  unfold ranged
  rw [From_app, From_app, till_app h0, List.length_append]
  refine Nat.add_le_add_left ?_ _
  by_cases hall : AllTill b (From a x)
  · rw [till_app hall, till_all hall, List.length_append]; omega
  · rw [till_stop hall]; exact Nat.le_refl _
end
section
variable {M : Nat → Option Pg} {l fb ob tb yb N : Nat} {a b : Ky} {J Jx : List En → World → Prop}

set_option maxRecDepth 100000 in
set_option maxHeartbeats 4000000 in
theorem over_node (hJ : ∀ pre W W', J pre W → Below W.heap.size W W' → J pre W')
    (hY : ∀ m pre x W, J pre W → pre.length < N → YieldAt Fence.wide m Try.prog l (encE x) W fun e W' =>
      (e = .returned (.bool true) ∧ J (pre ++ [x]) W' ∧ Kept W W') ∨ (e = .returned (.bool false) ∧ Jx (pre ++ [x]) W'))
    (p : Nat) (P : Pg) (c : Nat → List En) (es : List En) (hM : M p = some P) (hvl : P.vs.length = P.ks.length) (hkl : P.ks.length ≤ 1099511627776)
    (hes : es = flat c P P.ks.length ++ c P.ks.length) (hup : Up es)
    (hkid : (P.kids = [] ∧ (∀ i, c i = [])) ∨ (P.kids.length = P.ks.length + 1 ∧ ∀ i, i ≤ P.ks.length → ∀ m pre W, Gd M l fb ob tb yb a b J pre W → pre.length + (ranged a b (c i)).length ≤ N →
      CallsIn Fence.wide m Try.prog 50 #[.pointer (some ⟨P.kids.getD i 0, 0, none⟩), .pointer (some ⟨fb, 0, none⟩), .pointer (some ⟨ob, 0, none⟩), .pointer (some ⟨tb, 0, none⟩), .pointer (some ⟨yb, 0, none⟩)] W (OutP M l fb ob tb yb a b J Jx pre (c i)))) :
    ∀ (m : Nat) (pre : List En) (W : World), Gd M l fb ob tb yb a b J pre W → pre.length + (ranged a b es).length ≤ N →
      CallsIn Fence.wide m Try.prog 50 #[.pointer (some ⟨p, 0, none⟩), .pointer (some ⟨fb, 0, none⟩), .pointer (some ⟨ob, 0, none⟩), .pointer (some ⟨tb, 0, none⟩), .pointer (some ⟨yb, 0, none⟩)] W (OutP M l fb ob tb yb a b J Jx pre es) := by
  intro m pre W hG hN
  have HJ := Lib.hid hJ
  have HY := Lib.hid hY
  have HKID := Lib.hid hkid
  have HES := Lib.hid hes
  have HUP := Lib.hid hup
  have HN := Lib.hid hN
  have HVL := Lib.hid hvl
  clear hJ hY hkid hes hup hN hvl
  obtain ⟨at_, as_⟩ := a
  obtain ⟨bt, bs⟩ := b
  have HP := Lib.hid (hG.env.page hM)
  have HG := Lib.hid hG
  have c0 : W.cell? ⟨fb, 0, none⟩ = some (.int .i64 at_) := hG.env.cf.cell 0
  have c1 : W.cell? ⟨fb, 1, none⟩ = some (.int .i64 as_) := hG.env.cf.cell 1
  clear hG
  refine callsIn_of_wp Try.func50 rfl trivial ?_ rfl
  simp only [Try.ntmps50, List.size_toArray, List.length_cons, List.length_nil, Nat.reduceAdd, Nat.reduceSub, Array.replicate_succ, Array.replicate_zero, List.push_toArray, List.append_toArray, List.nil_append, List.cons_append]
  gi_wp2_with (refine ⟨trivial, (fun h => absurd h (by decide)), ?_⟩; gi_at_call 36; refine (callsIn_wide.2 (place_any p P ⟨at_, as_⟩ _ HP.out (by omega))).mono ?_; rintro e w1 ⟨rfl, hb1⟩)
  have HG1 := Lib.hid (HG.out.below HJ.out hb1)
  clear hb1 HG HP c0 c1
  obtain ⟨f0, hf0⟩ : ∃ f0, f0 = place P.ks ⟨at_, as_⟩ := ⟨_, rfl⟩
  rw [← hf0]
  have HF0 := Lib.hid hf0
  have hf0n : f0 ≤ P.ks.length := by rw [hf0]; exact place_le _ _
  clear hf0
  gi_loopg [9] (P.ks.length + 1 - f0) (fun g i wr => ∃ x : Nat, f0 ≤ x ∧ x ≤ P.ks.length ∧ g = P.ks.length + 1 - x ∧ i = .int .i64 x ∧ AllTill ⟨bt, bs⟩ (From ⟨at_, as_⟩ (flat c P x)) ∧ Gd M l fb ob tb yb ⟨at_, as_⟩ ⟨bt, bs⟩ J (pre ++ From ⟨at_, as_⟩ (flat c P x)) wr)
  case atStart =>
    have h0 : From ⟨at_, as_⟩ (flat c P f0) = [] := From_none (flat_below HUP.out HES.out _ f0 (by rw [HF0.out]; exact Nat.le_refl _))
    exact ⟨f0, Nat.le_refl _, hf0n, rfl, rfl, by rw [h0]; exact fun e he => absurd he (by simp), by rw [h0, List.append_nil]; exact HG1.out⟩
  case round =>
    clear HG1
    obtain ⟨x, hx0, hx, rfl, rfl, hat, hg⟩ := hrel
    have HAT := Lib.hid hat
    have HG := Lib.hid hg
    obtain ⟨A, hA, hA1, _⟩ := sl_form P.gk P.ks.length P.ck (hg.env.page hM).keys.1
    have k0' : wr.cell? ⟨p, 0, none⟩ = some (.slice A P.ks.length P.ck) := by rw [(hg.env.page hM).blk.cell 0]; exact congrArg some hA
    have HA := Lib.hid hA
    have HA1 := Lib.hid hA1
    clear hat hg hA hA1
    have hxi : (x : Int) ≤ (P.ks.length : Int) := by omega
    have hx0i : (0 : Int) ≤ (x : Int) := by omega
    gi_upto_region 5 with fail
    clear k0'
    gi_cut [43] from 17 (fun s wx => (s = .bool false ∧ AllTill ⟨bt, bs⟩ (From ⟨at_, as_⟩ (flat c P x ++ c x)) ∧ Gd M l fb ob tb yb ⟨at_, as_⟩ ⟨bt, bs⟩ J (pre ++ From ⟨at_, as_⟩ (flat c P x ++ c x)) wx) ∨ (s = .bool true ∧ OutF ⟨at_, as_⟩ ⟨bt, bs⟩ J Jx pre es wx))
    case first =>
      rcases HKID.out with ⟨hk1, hk2⟩ | ⟨hk1, hk2⟩
      · have hG := HG.out
        obtain ⟨C, hC, _, _⟩ := sl_form P.gc P.kids.length P.cc (hG.env.page hM).kids.1
        have k2' : wr.cell? ⟨p, 2, none⟩ = some (.slice C 0 P.cc) := by
          rw [(hG.env.page hM).blk.cell 2]
          have : sl P.gc P.kids.length P.cc = .slice C 0 P.cc := by rw [hC, hk1]; rfl
          exact congrArg some this
        have HK2 := Lib.hid hk2
        have HC := Lib.hid (show sl P.gc P.kids.length P.cc = .slice C 0 P.cc by rw [hC, hk1]; rfl)
        clear hk1 hk2 hC hG
        clear k2'
        have HS := Lib.hid (show ∀ w', Gd M l fb ob tb yb ⟨at_, as_⟩ ⟨bt, bs⟩ J (pre ++ From ⟨at_, as_⟩ (flat c P x)) w' → (w'.cell? ⟨p, 2, none⟩ = some (.slice C 0 P.cc) ∧ Gd M l fb ob tb yb ⟨at_, as_⟩ ⟨bt, bs⟩ J (pre ++ From ⟨at_, as_⟩ (flat c P x)) w') from fun w' h => ⟨by rw [(h.env.page hM).blk.cell 2]; exact congrArg some HC.out, h⟩)
        refine anyS_region (S := (fun w' => w'.cell? ⟨p, 2, none⟩ = some (.slice C 0 P.cc) ∧ Gd M l fb ob tb yb ⟨at_, as_⟩ ⟨bt, bs⟩ J (pre ++ From ⟨at_, as_⟩ (flat c P x)) w')) 1000 (by kernel_rfl) ?_ (fun hHeld => ?_)
        · exact HS.out _ (HG.out.below HJ.out ((Below.refl _ _).drew))
        refine anyS_take (i := 0) (v := ?_) (by (simp only [List.getElem?_toArray, List.getElem?_cons_zero]); exact rfl) (by kernel_rfl) (by kernel_rfl) (by kernel_rfl) (by kernel_rfl) (by decide) (by intro _ _ _ h; exact h) (Or.inl ⟨by rfl, ?_⟩) (by assumption) ?_
        rotate_left
        · (intro w hSw; (try dsimp only at hSw); go_simp; (try with_reducible rfl))
        try simp only [Act.put, List.setIfInBounds_toArray, List.set_cons_zero, List.set_cons_succ]
        refine anyS_take (i := 1) (v := ?_) (by (simp only [List.getElem?_toArray, List.getElem?_cons_zero, List.getElem?_cons_succ]); exact rfl) (by kernel_rfl) (by kernel_rfl) (by kernel_rfl) (by kernel_rfl) (by decide) (by intro _ _ _ h; exact h) (Or.inl ⟨by rfl, ?_⟩) (by assumption) ?_
        rotate_left
        · (intro w hSw; (try dsimp only at hSw); go_simp; (try with_reducible rfl))
        try simp only [Act.put, List.setIfInBounds_toArray, List.set_cons_zero, List.set_cons_succ]
        refine anyS_take (i := 2) (v := ?_) (by (simp only [List.getElem?_toArray, List.getElem?_cons_zero, List.getElem?_cons_succ]); exact rfl) (by kernel_rfl) (by kernel_rfl) (by kernel_rfl) (by kernel_rfl) (by decide) (by intro _ _ _ h; exact h) (Or.inl ⟨by rfl, ?_⟩) (by assumption) ?_
        rotate_left
        · (intro w hSw; (try dsimp only at hSw); go_simp; (try with_reducible rfl))
        try simp only [Act.put, List.setIfInBounds_toArray, List.set_cons_zero, List.set_cons_succ]
        refine anyS_take (i := 3) (v := ?_) (by (simp only [List.getElem?_toArray, List.getElem?_cons_zero, List.getElem?_cons_succ]); exact rfl) (by kernel_rfl) (by kernel_rfl) (by kernel_rfl) (by kernel_rfl) (by decide) (by intro _ _ _ h; exact h) (Or.inl ⟨by rfl, ?_⟩) (by assumption) ?_
        rotate_left
        · (intro w hSw; (try dsimp only at hSw); go_simp; (try with_reducible rfl))
        try simp only [Act.put, List.setIfInBounds_toArray, List.set_cons_zero, List.set_cons_succ]
        refine anyS_take (i := 4) (v := ?_) (by (simp only [List.getElem?_toArray, List.getElem?_cons_zero, List.getElem?_cons_succ]); exact rfl) (by kernel_rfl) (by kernel_rfl) (by kernel_rfl) (by kernel_rfl) (by decide) (by intro _ _ _ h; exact h) (Or.inl ⟨by rfl, ?_⟩) (by assumption) ?_
        rotate_left
        · (intro w hSw; (try dsimp only at hSw); go_simp; (try with_reducible rfl))
        try simp only [Act.put, List.setIfInBounds_toArray, List.set_cons_zero, List.set_cons_succ]
        refine anyS_take (i := 5) (v := ?_) (by (simp only [List.getElem?_toArray, List.getElem?_cons_zero, List.getElem?_cons_succ]); exact rfl) (by kernel_rfl) (by kernel_rfl) (by kernel_rfl) (by kernel_rfl) (by decide) (by intro _ _ _ h; exact h) (Or.inl ⟨by rfl, ?_⟩) (by assumption) ?_
        rotate_left
        · (intro w hSw; (try dsimp only at hSw); go_simp; (try with_reducible rfl))
        try simp only [Act.put, List.setIfInBounds_toArray, List.set_cons_zero, List.set_cons_succ]
        refine anyS_take (i := 6) (v := ?_) (by (simp only [List.getElem?_toArray, List.getElem?_cons_zero, List.getElem?_cons_succ]); exact rfl) (by kernel_rfl) (by kernel_rfl) (by kernel_rfl) (by kernel_rfl) (by decide) (by intro _ _ _ h; exact h) (Or.inl ⟨by rfl, ?_⟩) (by assumption) ?_
        rotate_left
        · (intro w hSw; (try dsimp only at hSw); go_simp; (try with_reducible rfl))
        try simp only [Act.put, List.setIfInBounds_toArray, List.set_cons_zero, List.set_cons_succ]
        refine anyS_take (i := 7) (v := undef) (by (simp only [List.getElem?_toArray, List.getElem?_cons_zero, List.getElem?_cons_succ]); exact rfl) (by kernel_rfl) (by kernel_rfl) (by kernel_rfl) (by kernel_rfl) (by decide) (by intro _ _ _ h; exact h) (Or.inr ⟨by rfl, rfl⟩) (by assumption) ?_
        try simp only [Act.put, List.setIfInBounds_toArray, List.set_cons_zero, List.set_cons_succ]
        refine anyS_take (i := 8) (v := undef) (by (simp only [List.getElem?_toArray, List.getElem?_cons_zero, List.getElem?_cons_succ]); exact rfl) (by kernel_rfl) (by kernel_rfl) (by kernel_rfl) (by kernel_rfl) (by decide) (by intro _ _ _ h; exact h) (Or.inr ⟨by rfl, rfl⟩) (by assumption) ?_
        try simp only [Act.put, List.setIfInBounds_toArray, List.set_cons_zero, List.set_cons_succ]
        refine anyS_take (i := 9) (v := undef) (by (simp only [List.getElem?_toArray, List.getElem?_cons_zero, List.getElem?_cons_succ]); exact rfl) (by kernel_rfl) (by kernel_rfl) (by kernel_rfl) (by kernel_rfl) (by decide) (by intro _ _ _ h; exact h) (Or.inr ⟨by rfl, rfl⟩) (by assumption) ?_
        try simp only [Act.put, List.setIfInBounds_toArray, List.set_cons_zero, List.set_cons_succ]
        refine anyS_take (i := 10) (v := undef) (by (simp only [List.getElem?_toArray, List.getElem?_cons_zero, List.getElem?_cons_succ]); exact rfl) (by kernel_rfl) (by kernel_rfl) (by kernel_rfl) (by kernel_rfl) (by decide) (by intro _ _ _ h; exact h) (Or.inr ⟨by rfl, rfl⟩) (by assumption) ?_
        try simp only [Act.put, List.setIfInBounds_toArray, List.set_cons_zero, List.set_cons_succ]
        refine anyS_take (i := 11) (v := undef) (by (simp only [List.getElem?_toArray, List.getElem?_cons_zero, List.getElem?_cons_succ]); exact rfl) (by kernel_rfl) (by kernel_rfl) (by kernel_rfl) (by kernel_rfl) (by decide) (by intro _ _ _ h; exact h) (Or.inr ⟨by rfl, rfl⟩) (by assumption) ?_
        try simp only [Act.put, List.setIfInBounds_toArray, List.set_cons_zero, List.set_cons_succ]
        refine anyS_take (i := 12) (v := undef) (by (simp only [List.getElem?_toArray, List.getElem?_cons_zero, List.getElem?_cons_succ]); exact rfl) (by kernel_rfl) (by kernel_rfl) (by kernel_rfl) (by kernel_rfl) (by decide) (by intro _ _ _ h; exact h) (Or.inr ⟨by rfl, rfl⟩) (by assumption) ?_
        try simp only [Act.put, List.setIfInBounds_toArray, List.set_cons_zero, List.set_cons_succ]
        refine anyS_take (i := 13) (v := undef) (by (simp only [List.getElem?_toArray, List.getElem?_cons_zero, List.getElem?_cons_succ]); exact rfl) (by kernel_rfl) (by kernel_rfl) (by kernel_rfl) (by kernel_rfl) (by decide) (by intro _ _ _ h; exact h) (Or.inr ⟨by rfl, rfl⟩) (by assumption) ?_
        try simp only [Act.put, List.setIfInBounds_toArray, List.set_cons_zero, List.set_cons_succ]
        refine anyS_take (i := 14) (v := undef) (by (simp only [List.getElem?_toArray, List.getElem?_cons_zero, List.getElem?_cons_succ]); exact rfl) (by kernel_rfl) (by kernel_rfl) (by kernel_rfl) (by kernel_rfl) (by decide) (by intro _ _ _ h; exact h) (Or.inr ⟨by rfl, rfl⟩) (by assumption) ?_
        try simp only [Act.put, List.setIfInBounds_toArray, List.set_cons_zero, List.set_cons_succ]
        refine anyS_take (i := 15) (v := undef) (by (simp only [List.getElem?_toArray, List.getElem?_cons_zero, List.getElem?_cons_succ]); exact rfl) (by kernel_rfl) (by kernel_rfl) (by kernel_rfl) (by kernel_rfl) (by decide) (by intro _ _ _ h; exact h) (Or.inr ⟨by rfl, rfl⟩) (by assumption) ?_
        try simp only [Act.put, List.setIfInBounds_toArray, List.set_cons_zero, List.set_cons_succ]
        refine anyS_take (i := 16) (v := undef) (by (simp only [List.getElem?_toArray, List.getElem?_cons_zero, List.getElem?_cons_succ]); exact rfl) (by kernel_rfl) (by kernel_rfl) (by kernel_rfl) (by kernel_rfl) (by decide) (by intro _ _ _ h; exact h) (Or.inr ⟨by rfl, rfl⟩) (by assumption) ?_
        try simp only [Act.put, List.setIfInBounds_toArray, List.set_cons_zero, List.set_cons_succ]
        refine anyS_take (i := 17) (v := ?_) (by (simp only [List.getElem?_toArray, List.getElem?_cons_zero, List.getElem?_cons_succ]); exact rfl) (by kernel_rfl) (by kernel_rfl) (by kernel_rfl) (by kernel_rfl) (by decide) (by intro _ _ _ h; exact h) (Or.inl ⟨by rfl, ?_⟩) (by assumption) ?_
        rotate_left
        · (intro w hSw; (try dsimp only at hSw); go_simp; (try with_reducible rfl))
        try simp only [Act.put, List.setIfInBounds_toArray, List.set_cons_zero, List.set_cons_succ]
        refine anyS_done (by kernel_rfl) ?_ _
        gi_wp2
        gi_meet
        exact .inl ⟨rfl, by rw [HK2.out x, List.append_nil]; exact HAT.out, by rw [HK2.out x, List.append_nil]; exact hHeld.2⟩
      · have HSC := Lib.hid (sl_pos P.gc P.kids.length P.cc ((HG.out.env.page hM).kids.pos (by omega)))
        have hkx : x < P.kids.length := by omega
        obtain ⟨kp, hkp⟩ : ∃ kp, kp = P.kids.getD x 0 := ⟨_, rfl⟩
        have HC := Lib.hid (hk2 x hx)
        rw [← hkp] at HC
        have hln : (x : Int) < (P.kids.length : Int) := by omega
        have hl0 : (0 : Int) < (P.kids.length : Int) := by omega
        have hl0' : 0 < P.kids.length := by omega
        have HS := Lib.hid (show ∀ w', Gd M l fb ob tb yb ⟨at_, as_⟩ ⟨bt, bs⟩ J (pre ++ From ⟨at_, as_⟩ (flat c P x)) w' → (w'.cell? ⟨p, 2, none⟩ = some (.slice (some ⟨P.gc, 0, none⟩) P.kids.length P.cc) ∧ w'.cell? ⟨P.gc, x, none⟩ = some (.pointer (some ⟨kp, 0, none⟩)) ∧ w'.cell? ⟨ob, 0, none⟩ = some (.func (.func 50) #[] #[.pointer (some ⟨fb, 0, none⟩), .pointer (some ⟨ob, 0, none⟩), .pointer (some ⟨tb, 0, none⟩), .pointer (some ⟨yb, 0, none⟩)]) ∧ Gd M l fb ob tb yb ⟨at_, as_⟩ ⟨bt, bs⟩ J (pre ++ From ⟨at_, as_⟩ (flat c P x)) w') from fun w' h => ⟨by rw [(h.env.page hM).blk.cell 2]; exact congrArg some HSC.out, by rw [hkp]; exact (h.env.page hM).kid hkx, h.env.co.cell 0, h⟩)
        have hroom : pre.length + (From ⟨at_, as_⟩ (flat c P x)).length + (ranged ⟨at_, as_⟩ ⟨bt, bs⟩ (c x)).length ≤ N := by
          obtain ⟨r, hr⟩ := kid_mem HES.out hx
          have h1 := room_left (x := c x) (r := r) HAT.out
          have h2 := HN.out
          rw [hr] at h2
          omega
        have HR := Lib.hid hroom
        clear hkp hk2 hk1 hroom
        refine anyS_region (S := (fun w' => w'.cell? ⟨p, 2, none⟩ = some (.slice (some ⟨P.gc, 0, none⟩) P.kids.length P.cc) ∧ w'.cell? ⟨P.gc, x, none⟩ = some (.pointer (some ⟨kp, 0, none⟩)) ∧ w'.cell? ⟨ob, 0, none⟩ = some (.func (.func 50) #[] #[.pointer (some ⟨fb, 0, none⟩), .pointer (some ⟨ob, 0, none⟩), .pointer (some ⟨tb, 0, none⟩), .pointer (some ⟨yb, 0, none⟩)]) ∧ Gd M l fb ob tb yb ⟨at_, as_⟩ ⟨bt, bs⟩ J (pre ++ From ⟨at_, as_⟩ (flat c P x)) w')) 15 (by kernel_rfl) ?_ (fun hHeld => ?_)
        · exact HS.out _ (HG.out.below HJ.out ((Below.refl _ _).drew))
        refine anyS_take (i := 0) (v := ?_) (by (simp only [List.getElem?_toArray, List.getElem?_cons_zero]); exact rfl) (by kernel_rfl) (by kernel_rfl) (by kernel_rfl) (by kernel_rfl) (by decide) (by intro _ _ _ h; exact h) (Or.inl ⟨by rfl, ?_⟩) (by assumption) ?_
        rotate_left
        · (intro w hSw; (try dsimp only at hSw); go_simp; (try with_reducible rfl))
        try simp only [Act.put, List.setIfInBounds_toArray, List.set_cons_zero, List.set_cons_succ]
        refine anyS_take (i := 1) (v := ?_) (by (simp only [List.getElem?_toArray, List.getElem?_cons_zero, List.getElem?_cons_succ]); exact rfl) (by kernel_rfl) (by kernel_rfl) (by kernel_rfl) (by kernel_rfl) (by decide) (by intro _ _ _ h; exact h) (Or.inl ⟨by rfl, ?_⟩) (by assumption) ?_
        rotate_left
        · (intro w hSw; (try dsimp only at hSw); go_simp; (try with_reducible rfl))
        try simp only [Act.put, List.setIfInBounds_toArray, List.set_cons_zero, List.set_cons_succ]
        refine anyS_take (i := 2) (v := ?_) (by (simp only [List.getElem?_toArray, List.getElem?_cons_zero, List.getElem?_cons_succ]); exact rfl) (by kernel_rfl) (by kernel_rfl) (by kernel_rfl) (by kernel_rfl) (by decide) (by intro _ _ _ h; exact h) (Or.inl ⟨by rfl, ?_⟩) (by assumption) ?_
        rotate_left
        · (intro w hSw; (try dsimp only at hSw); go_simp; (try with_reducible rfl))
        try simp only [Act.put, List.setIfInBounds_toArray, List.set_cons_zero, List.set_cons_succ]
        refine anyS_take (i := 3) (v := ?_) (by (simp only [List.getElem?_toArray, List.getElem?_cons_zero, List.getElem?_cons_succ]); exact rfl) (by kernel_rfl) (by kernel_rfl) (by kernel_rfl) (by kernel_rfl) (by decide) (by intro _ _ _ h; exact h) (Or.inl ⟨by rfl, ?_⟩) (by assumption) ?_
        rotate_left
        · (intro w hSw; (try dsimp only at hSw); go_simp; (try with_reducible rfl))
        try simp only [Act.put, List.setIfInBounds_toArray, List.set_cons_zero, List.set_cons_succ]
        refine anyS_take (i := 4) (v := ?_) (by (simp only [List.getElem?_toArray, List.getElem?_cons_zero, List.getElem?_cons_succ]); exact rfl) (by kernel_rfl) (by kernel_rfl) (by kernel_rfl) (by kernel_rfl) (by decide) (by intro _ _ _ h; exact h) (Or.inl ⟨by rfl, ?_⟩) (by assumption) ?_
        rotate_left
        · (intro w hSw; (try dsimp only at hSw); go_simp; (try with_reducible rfl))
        try simp only [Act.put, List.setIfInBounds_toArray, List.set_cons_zero, List.set_cons_succ]
        refine anyS_take (i := 5) (v := ?_) (by (simp only [List.getElem?_toArray, List.getElem?_cons_zero, List.getElem?_cons_succ]); exact rfl) (by kernel_rfl) (by kernel_rfl) (by kernel_rfl) (by kernel_rfl) (by decide) (by intro _ _ _ h; exact h) (Or.inl ⟨by rfl, ?_⟩) (by assumption) ?_
        rotate_left
        · (intro w hSw; (try dsimp only at hSw); go_simp; (try with_reducible rfl))
        try simp only [Act.put, List.setIfInBounds_toArray, List.set_cons_zero, List.set_cons_succ]
        refine anyS_take (i := 6) (v := ?_) (by (simp only [List.getElem?_toArray, List.getElem?_cons_zero, List.getElem?_cons_succ]); exact rfl) (by kernel_rfl) (by kernel_rfl) (by kernel_rfl) (by kernel_rfl) (by decide) (by intro _ _ _ h; exact h) (Or.inl ⟨by rfl, ?_⟩) (by assumption) ?_
        rotate_left
        · (intro w hSw; (try dsimp only at hSw); go_simp; (try with_reducible rfl))
        try simp only [Act.put, List.setIfInBounds_toArray, List.set_cons_zero, List.set_cons_succ]
        refine anyS_take (i := 7) (v := ?_) (by (simp only [List.getElem?_toArray, List.getElem?_cons_zero, List.getElem?_cons_succ]); exact rfl) (by kernel_rfl) (by kernel_rfl) (by kernel_rfl) (by kernel_rfl) (by decide) (by intro _ _ _ h; exact h) (Or.inl ⟨by rfl, ?_⟩) (by assumption) ?_
        rotate_left
        · (intro w hSw; (try dsimp only at hSw); go_simp; (try with_reducible rfl))
        try simp only [Act.put, List.setIfInBounds_toArray, List.set_cons_zero, List.set_cons_succ]
        refine anyS_take (i := 8) (v := ?_) (by (simp only [List.getElem?_toArray, List.getElem?_cons_zero, List.getElem?_cons_succ]); exact rfl) (by kernel_rfl) (by kernel_rfl) (by kernel_rfl) (by kernel_rfl) (by decide) (by intro _ _ _ h; exact h) (Or.inl ⟨by rfl, ?_⟩) (by assumption) ?_
        rotate_left
        · (intro w hSw; (try dsimp only at hSw); go_simp; (try with_reducible rfl))
        try simp only [Act.put, List.setIfInBounds_toArray, List.set_cons_zero, List.set_cons_succ]
        refine anyS_take (i := 9) (v := ?_) (by (simp only [List.getElem?_toArray, List.getElem?_cons_zero, List.getElem?_cons_succ]); exact rfl) (by kernel_rfl) (by kernel_rfl) (by kernel_rfl) (by kernel_rfl) (by decide) (by intro _ _ _ h; exact h) (Or.inl ⟨by rfl, ?_⟩) (by assumption) ?_
        rotate_left
        · (intro w hSw; (try dsimp only at hSw); go_simp; (try with_reducible rfl))
        try simp only [Act.put, List.setIfInBounds_toArray, List.set_cons_zero, List.set_cons_succ]
        refine anyS_take (i := 10) (v := ?_) (by (simp only [List.getElem?_toArray, List.getElem?_cons_zero, List.getElem?_cons_succ]); exact rfl) (by kernel_rfl) (by kernel_rfl) (by kernel_rfl) (by kernel_rfl) (by decide) (by intro _ _ _ h; exact h) (Or.inl ⟨by rfl, ?_⟩) (by assumption) ?_
        rotate_left
        · (intro w hSw; (try dsimp only at hSw); go_simp; (try with_reducible rfl))
        try simp only [Act.put, List.setIfInBounds_toArray, List.set_cons_zero, List.set_cons_succ]
        refine anyS_take (i := 11) (v := ?_) (by (simp only [List.getElem?_toArray, List.getElem?_cons_zero, List.getElem?_cons_succ]); exact rfl) (by kernel_rfl) (by kernel_rfl) (by kernel_rfl) (by kernel_rfl) (by decide) (by intro _ _ _ h; exact h) (Or.inl ⟨by rfl, ?_⟩) (by assumption) ?_
        rotate_left
        · (intro w hSw; (try dsimp only at hSw); go_simp; (try with_reducible rfl))
        try simp only [Act.put, List.setIfInBounds_toArray, List.set_cons_zero, List.set_cons_succ]
        refine anyS_take (i := 12) (v := ?_) (by (simp only [List.getElem?_toArray, List.getElem?_cons_zero, List.getElem?_cons_succ]); exact rfl) (by kernel_rfl) (by kernel_rfl) (by kernel_rfl) (by kernel_rfl) (by decide) (by intro _ _ _ h; exact h) (Or.inl ⟨by rfl, ?_⟩) (by assumption) ?_
        rotate_left
        · (intro w hSw; (try dsimp only at hSw); go_simp; (try with_reducible rfl))
        try simp only [Act.put, List.setIfInBounds_toArray, List.set_cons_zero, List.set_cons_succ]
        refine anyS_take (i := 13) (v := ?_) (by (simp only [List.getElem?_toArray, List.getElem?_cons_zero, List.getElem?_cons_succ]); exact rfl) (by kernel_rfl) (by kernel_rfl) (by kernel_rfl) (by kernel_rfl) (by decide) (by intro _ _ _ h; exact h) (Or.inl ⟨by rfl, ?_⟩) (by assumption) ?_
        rotate_left
        · (intro w hSw; (try dsimp only at hSw); go_simp; (try with_reducible rfl))
        try simp only [Act.put, List.setIfInBounds_toArray, List.set_cons_zero, List.set_cons_succ]
        refine anyS_take (i := 14) (v := ?_) (by (simp only [List.getElem?_toArray, List.getElem?_cons_zero, List.getElem?_cons_succ]); exact rfl) (by kernel_rfl) (by kernel_rfl) (by kernel_rfl) (by kernel_rfl) (by decide) (by intro _ _ _ h; exact h) (Or.inl ⟨by rfl, ?_⟩) (by assumption) ?_
        rotate_left
        · (intro w hSw; (try dsimp only at hSw); go_simp; (try with_reducible rfl))
        try simp only [Act.put, List.setIfInBounds_toArray, List.set_cons_zero, List.set_cons_succ]
        refine anyS_exit (e := 15) (by kernel_rfl) (by (simp only [List.getElem?_toArray, List.getElem?_cons_zero, List.getElem?_cons_succ]); exact rfl) (by rfl) (fun K hK => ?_)
        go_simp
        refine ⟨trivial, (fun h => absurd h (by decide)), ?_⟩
        gi_at_call 50
        refine (HC.out _ _ _ hHeld.2.2.2 (by rw [List.length_append]; exact HR.out)).mono ?_
        rintro e w' (⟨rfl, h1, h2, h3⟩ | ⟨rfl, hout⟩)
        · have HT1 := Lib.hid h1
          have HT2 := Lib.hid h2
          have HT3 := Lib.hid h3
          clear h1 h2 h3
          refine hK.out _ _ ?_
          clear hK K
          try simp only [Act.put, List.setIfInBounds_toArray, List.set_cons_zero, List.set_cons_succ]
          refine wpAnyIn_take (i := 16) (v := ?_) rfl (by (simp only [List.getElem?_toArray, List.getElem?_cons_zero, List.getElem?_cons_succ]); exact rfl) (by kernel_rfl) (by kernel_rfl) (by kernel_rfl) (by intro _ _ _ h; exact h) ⟨Or.inl ⟨by rfl, ?_⟩, fun _ => rfl⟩ ?_
          rotate_left
          · (intro w; go_simp; (try with_reducible rfl))
          try simp only [Act.put, List.setIfInBounds_toArray, List.set_cons_zero, List.set_cons_succ]
          refine wpAnyIn_take (i := 17) (v := ?_) rfl (by (simp only [List.getElem?_toArray, List.getElem?_cons_zero, List.getElem?_cons_succ]); exact rfl) (by kernel_rfl) (by kernel_rfl) (by kernel_rfl) (by intro _ _ _ h; exact h) ⟨Or.inl ⟨by rfl, ?_⟩, fun _ => rfl⟩ ?_
          rotate_left
          · (intro w; go_simp; (try with_reducible rfl))
          try simp only [Act.put, List.setIfInBounds_toArray, List.set_cons_zero, List.set_cons_succ]
          refine wpAnyIn_done (by kernel_rfl) ?_ _
          gi_wp2
          gi_meet
          exact .inl ⟨rfl, by rw [From_app]; exact AllTill.app HAT.out HT1.out, HT3.out, by rw [From_app, ← List.append_assoc]; exact HT2.out⟩
        · have HT1 := Lib.hid hout
          clear hout
          refine hK.out _ _ ?_
          clear hK K
          try simp only [Act.put, List.setIfInBounds_toArray, List.set_cons_zero, List.set_cons_succ]
          refine wpAnyIn_take (i := 16) (v := ?_) rfl (by (simp only [List.getElem?_toArray, List.getElem?_cons_zero, List.getElem?_cons_succ]); exact rfl) (by kernel_rfl) (by kernel_rfl) (by kernel_rfl) (by intro _ _ _ h; exact h) ⟨Or.inl ⟨by rfl, ?_⟩, fun _ => rfl⟩ ?_
          rotate_left
          · (intro w; go_simp; (try with_reducible rfl))
          try simp only [Act.put, List.setIfInBounds_toArray, List.set_cons_zero, List.set_cons_succ]
          refine wpAnyIn_take (i := 17) (v := ?_) rfl (by (simp only [List.getElem?_toArray, List.getElem?_cons_zero, List.getElem?_cons_succ]); exact rfl) (by kernel_rfl) (by kernel_rfl) (by kernel_rfl) (by intro _ _ _ h; exact h) ⟨Or.inl ⟨by rfl, ?_⟩, fun _ => rfl⟩ ?_
          rotate_left
          · (intro w; go_simp; (try with_reducible rfl))
          try simp only [Act.put, List.setIfInBounds_toArray, List.set_cons_zero, List.set_cons_succ]
          refine wpAnyIn_done (by kernel_rfl) ?_ _
          gi_wp2
          gi_meet
          refine .inr ⟨rfl, ?_⟩
          obtain ⟨r, hr⟩ := kid_mem HES.out hx
          rw [hr]
          exact OutF.left HAT.out HT1.out
    rcases hcut with ⟨rfl, hat, hg⟩ | ⟨rfl, hout⟩
    · clear HG HAT
      have HAT := Lib.hid hat
      have HG := Lib.hid hg
      have k0' : wc.cell? ⟨p, 0, none⟩ = some (.slice A P.ks.length P.ck) := by rw [(hg.env.page hM).blk.cell 0]; exact congrArg some HA.out
      clear hat hg
      by_cases hlt : x < P.ks.length
      · have hne : ((x : Int) == (P.ks.length : Int)) = false := by rw [beq_eq_false_iff_ne]; omega
        gi_upto_region 8 with fail
        clear k0' hne
        gi_cut [79] from 17 (fun s wx => (s = .bool false ∧ AllTill ⟨bt, bs⟩ (From ⟨at_, as_⟩ (flat c P (x + 1))) ∧ Gd M l fb ob tb yb ⟨at_, as_⟩ ⟨bt, bs⟩ J (pre ++ From ⟨at_, as_⟩ (flat c P (x + 1))) wx) ∨ (s = .bool true ∧ OutF ⟨at_, as_⟩ ⟨bt, bs⟩ J Jx pre es wx))
        case first =>
          obtain ⟨q, hq⟩ : ∃ q, q = P.ks.getD x k0 := ⟨_, rfl⟩
          obtain ⟨v, hv⟩ : ∃ v, v = P.vs.getD x 0 := ⟨_, rfl⟩
          have HEN := Lib.hid (show ent P x = (q, v) by rw [hq, hv]; rfl)
          have HLG := Lib.hid (show bel q ⟨at_, as_⟩ = false by have := ent_from HUP.out HES.out ⟨at_, as_⟩ (by rw [← HF0.out]; exact hx0) hlt; rw [HEN.out] at this; exact this)
          have hki : (x : Int) < (P.ks.length : Int) := by omega
          have hkv : (x : Int) < (P.vs.length : Int) := by rw [HVL.out]; exact hki
          have hlv : x < P.vs.length := by rw [HVL.out]; exact hlt
          obtain ⟨r8, hr8⟩ := ent_mem HES.out hlt
          have HR8 := Lib.hid hr8
          clear hr8
          have HSK := Lib.hid (sl_pos P.gk P.ks.length P.ck ((HG.out.env.page hM).keys.pos (by omega)))
          have HSV := Lib.hid (sl_pos P.gv P.vs.length P.cv ((HG.out.env.page hM).vals.pos (by omega)))
          have HQ := Lib.hid hq
          have HV := Lib.hid hv
          clear hq hv
          have hff : From ⟨at_, as_⟩ (flat c P (x + 1)) = From ⟨at_, as_⟩ (flat c P x ++ c x) ++ [(q, v)] := by
            rw [flat_succ, ← List.append_assoc, From_app, HEN.out, From_all (es := [(q, v)]) (fun e he => by rw [List.mem_singleton.1 he]; exact HLG.out)]
          have HFF := Lib.hid hff
          clear hff
          have hra := ranged_at (a := ⟨at_, as_⟩) (b := ⟨bt, bs⟩) (A := flat c P x ++ c x) (x := (q, v)) (r := r8) (es := es) (by rw [HR8.out, HEN.out]; simp) HAT.out HLG.out
          have HRA := Lib.hid hra.1
          have HRM0 := Lib.hid hra.2
          clear hra
          by_cases hb : bel q ⟨bt, bs⟩ = true
          · have HBQ := Lib.hid (show ∀ W, Calls Try.prog 51 #[.agg #[.int .i64 q.t, .int .i64 q.s], .agg #[.int .i64 bt, .int .i64 bs]] W fun e w' => e = .returned (.bool true) ∧ Below W.heap.size W w' from fun W => (below_any q ⟨bt, bs⟩ W).mono (fun e w' h => ⟨by rw [h.1, hb], h.2⟩))
            have HAT2 := Lib.hid (show AllTill ⟨bt, bs⟩ (From ⟨at_, as_⟩ (flat c P (x + 1))) by rw [HFF.out]; exact AllTill.app HAT.out (fun e he => by rw [List.mem_singleton.1 he]; exact hb))
            have HB := Lib.hid hb
            clear hb
            have hroom : (pre ++ From ⟨at_, as_⟩ (flat c P x ++ c x)).length < N := by
              have h2 := HN.out
              rw [HRA.out, till_yes HB.out, List.length_append, List.length_cons] at h2
              rw [List.length_append]
              omega
            have HRM := Lib.hid hroom
            clear hroom
            have HS := Lib.hid (show ∀ w', Gd M l fb ob tb yb ⟨at_, as_⟩ ⟨bt, bs⟩ J (pre ++ From ⟨at_, as_⟩ (flat c P x ++ c x)) w' → (w'.cell? ⟨p, 0, none⟩ = some (.slice (some ⟨P.gk, 0, none⟩) P.ks.length P.ck) ∧ w'.cell? ⟨P.gk, x * 2, none⟩ = some (.int .i64 q.t) ∧ w'.cell? ⟨P.gk, x * 2 + 1, none⟩ = some (.int .i64 q.s) ∧ w'.cell? ⟨tb, 0, none⟩ = some (.int .i64 bt) ∧ w'.cell? ⟨tb, 1, none⟩ = some (.int .i64 bs) ∧ w'.cell? ⟨yb, 0, none⟩ = some (.func (.yield l) #[] #[]) ∧ w'.cell? ⟨p, 1, none⟩ = some (.slice (some ⟨P.gv, 0, none⟩) P.vs.length P.cv) ∧ w'.cell? ⟨P.gv, x, none⟩ = some (.int .i64 v) ∧ Gd M l fb ob tb yb ⟨at_, as_⟩ ⟨bt, bs⟩ J (pre ++ From ⟨at_, as_⟩ (flat c P x ++ c x)) w') from fun w' h => ⟨by rw [(h.env.page hM).blk.cell 0]; exact congrArg some HSK.out, by rw [HQ.out]; exact ((h.env.page hM).key hlt).1, by rw [HQ.out]; exact ((h.env.page hM).key hlt).2, h.env.ct.cell 0, h.env.ct.cell 1, h.env.cy.cell 0, by rw [(h.env.page hM).blk.cell 1]; exact congrArg some HSV.out, by rw [HV.out]; exact (h.env.page hM).val hlv, h⟩)
            refine anyS_region (S := (fun w' => w'.cell? ⟨p, 0, none⟩ = some (.slice (some ⟨P.gk, 0, none⟩) P.ks.length P.ck) ∧ w'.cell? ⟨P.gk, x * 2, none⟩ = some (.int .i64 q.t) ∧ w'.cell? ⟨P.gk, x * 2 + 1, none⟩ = some (.int .i64 q.s) ∧ w'.cell? ⟨tb, 0, none⟩ = some (.int .i64 bt) ∧ w'.cell? ⟨tb, 1, none⟩ = some (.int .i64 bs) ∧ w'.cell? ⟨yb, 0, none⟩ = some (.func (.yield l) #[] #[]) ∧ w'.cell? ⟨p, 1, none⟩ = some (.slice (some ⟨P.gv, 0, none⟩) P.vs.length P.cv) ∧ w'.cell? ⟨P.gv, x, none⟩ = some (.int .i64 v) ∧ Gd M l fb ob tb yb ⟨at_, as_⟩ ⟨bt, bs⟩ J (pre ++ From ⟨at_, as_⟩ (flat c P x ++ c x)) w')) 26 (by kernel_rfl) ?_ (fun hHeld => ?_)
            · exact HS.out _ (HG.out.below HJ.out ((Below.refl _ _).drew))
            refine anyS_take (i := 0) (v := ?_) (by (simp only [List.getElem?_toArray, List.getElem?_cons_zero]); exact rfl) (by kernel_rfl) (by kernel_rfl) (by kernel_rfl) (by kernel_rfl) (by decide) (by intro _ _ _ h; exact h) (Or.inl ⟨by rfl, ?_⟩) (by assumption) ?_
            rotate_left
            · (intro w hSw; (try dsimp only at hSw); go_simp; (try with_reducible rfl))
            try simp only [Act.put, List.setIfInBounds_toArray, List.set_cons_zero, List.set_cons_succ]
            refine anyS_take (i := 1) (v := ?_) (by (simp only [List.getElem?_toArray, List.getElem?_cons_zero, List.getElem?_cons_succ]); exact rfl) (by kernel_rfl) (by kernel_rfl) (by kernel_rfl) (by kernel_rfl) (by decide) (by intro _ _ _ h; exact h) (Or.inl ⟨by rfl, ?_⟩) (by assumption) ?_
            rotate_left
            · (intro w hSw; (try dsimp only at hSw); go_simp; (try with_reducible rfl))
            try simp only [Act.put, List.setIfInBounds_toArray, List.set_cons_zero, List.set_cons_succ]
            refine anyS_take (i := 2) (v := ?_) (by (simp only [List.getElem?_toArray, List.getElem?_cons_zero, List.getElem?_cons_succ]); exact rfl) (by kernel_rfl) (by kernel_rfl) (by kernel_rfl) (by kernel_rfl) (by decide) (by intro _ _ _ h; exact h) (Or.inl ⟨by rfl, ?_⟩) (by assumption) ?_
            rotate_left
            · (intro w hSw; (try dsimp only at hSw); go_simp; (try with_reducible rfl))
            try simp only [Act.put, List.setIfInBounds_toArray, List.set_cons_zero, List.set_cons_succ]
            refine anyS_take (i := 3) (v := ?_) (by (simp only [List.getElem?_toArray, List.getElem?_cons_zero, List.getElem?_cons_succ]); exact rfl) (by kernel_rfl) (by kernel_rfl) (by kernel_rfl) (by kernel_rfl) (by decide) (by intro _ _ _ h; exact h) (Or.inl ⟨by rfl, ?_⟩) (by assumption) ?_
            rotate_left
            · (intro w hSw; (try dsimp only at hSw); go_simp; (try with_reducible rfl))
            try simp only [Act.put, List.setIfInBounds_toArray, List.set_cons_zero, List.set_cons_succ]
            refine anyS_take (i := 4) (v := ?_) (by (simp only [List.getElem?_toArray, List.getElem?_cons_zero, List.getElem?_cons_succ]); exact rfl) (by kernel_rfl) (by kernel_rfl) (by kernel_rfl) (by kernel_rfl) (by decide) (by intro _ _ _ h; exact h) (Or.inl ⟨by rfl, ?_⟩) (by assumption) ?_
            rotate_left
            · (intro w hSw; (try dsimp only at hSw); go_simp; (try with_reducible rfl))
            try simp only [Act.put, List.setIfInBounds_toArray, List.set_cons_zero, List.set_cons_succ]
            refine anyS_take (i := 5) (v := ?_) (by (simp only [List.getElem?_toArray, List.getElem?_cons_zero, List.getElem?_cons_succ]); exact rfl) (by kernel_rfl) (by kernel_rfl) (by kernel_rfl) (by kernel_rfl) (by decide) (by intro _ _ _ h; exact h) (Or.inl ⟨by rfl, ?_⟩) (by assumption) ?_
            rotate_left
            · (intro w hSw; (try dsimp only at hSw); go_simp; (try with_reducible rfl))
            try simp only [Act.put, List.setIfInBounds_toArray, List.set_cons_zero, List.set_cons_succ]
            refine anyS_take (i := 6) (v := ?_) (by (simp only [List.getElem?_toArray, List.getElem?_cons_zero, List.getElem?_cons_succ]); exact rfl) (by kernel_rfl) (by kernel_rfl) (by kernel_rfl) (by kernel_rfl) (by decide) (by intro _ _ _ h; exact h) (Or.inl ⟨by rfl, ?_⟩) (by assumption) ?_
            rotate_left
            · (intro w hSw; (try dsimp only at hSw); go_simp; (try with_reducible rfl))
            try simp only [Act.put, List.setIfInBounds_toArray, List.set_cons_zero, List.set_cons_succ]
            refine anyS_take (i := 7) (v := ?_) (by (simp only [List.getElem?_toArray, List.getElem?_cons_zero, List.getElem?_cons_succ]); exact rfl) (by kernel_rfl) (by kernel_rfl) (by kernel_rfl) (by kernel_rfl) (by decide) (by intro _ _ _ h; exact h) (Or.inl ⟨by rfl, ?_⟩) (by assumption) ?_
            rotate_left
            · (intro w hSw; (try dsimp only at hSw); go_simp; (try with_reducible rfl))
            try simp only [Act.put, List.setIfInBounds_toArray, List.set_cons_zero, List.set_cons_succ]
            refine anyS_only (i := 8) (by kernel_rfl) (by decide) (by (simp only [List.getElem?_toArray, List.getElem?_cons_zero, List.getElem?_cons_succ]); exact rfl) (by rfl) (fun K hK => ?_)
            go_simp
            refine ⟨trivial, (fun h => absurd h (by decide)), ?_⟩
            gi_at_call 51
            refine (callsIn_wide.2 (HBQ.out _)).mono ?_
            rintro e w' ⟨rfl, hb⟩
            refine hK.out _ _ ?_ (fun hHeld => ?_)
            · exact HS.out _ (hHeld.2.2.2.2.2.2.2.2.below HJ.out hb)
            clear hK K
            try simp only [Act.put, List.setIfInBounds_toArray, List.set_cons_zero, List.set_cons_succ]
            refine anyS_take (i := 9) (v := ?_) (by (simp only [List.getElem?_toArray, List.getElem?_cons_zero, List.getElem?_cons_succ]); exact rfl) (by kernel_rfl) (by kernel_rfl) (by kernel_rfl) (by kernel_rfl) (by decide) (by intro _ _ _ h; exact h) (Or.inl ⟨by rfl, ?_⟩) (by assumption) ?_
            rotate_left
            · (intro w hSw; (try dsimp only at hSw); go_simp; (try with_reducible rfl))
            try simp only [Act.put, List.setIfInBounds_toArray, List.set_cons_zero, List.set_cons_succ]
            refine anyS_take (i := 10) (v := ?_) (by (simp only [List.getElem?_toArray, List.getElem?_cons_zero, List.getElem?_cons_succ]); exact rfl) (by kernel_rfl) (by kernel_rfl) (by kernel_rfl) (by kernel_rfl) (by decide) (by intro _ _ _ h; exact h) (Or.inl ⟨by rfl, ?_⟩) (by assumption) ?_
            rotate_left
            · (intro w hSw; (try dsimp only at hSw); go_simp; (try with_reducible rfl))
            try simp only [Act.put, List.setIfInBounds_toArray, List.set_cons_zero, List.set_cons_succ]
            refine anyS_take (i := 11) (v := ?_) (by (simp only [List.getElem?_toArray, List.getElem?_cons_zero, List.getElem?_cons_succ]); exact rfl) (by kernel_rfl) (by kernel_rfl) (by kernel_rfl) (by kernel_rfl) (by decide) (by intro _ _ _ h; exact h) (Or.inl ⟨by rfl, ?_⟩) (by assumption) ?_
            rotate_left
            · (intro w hSw; (try dsimp only at hSw); go_simp; (try with_reducible rfl))
            try simp only [Act.put, List.setIfInBounds_toArray, List.set_cons_zero, List.set_cons_succ]
            refine anyS_take (i := 12) (v := ?_) (by (simp only [List.getElem?_toArray, List.getElem?_cons_zero, List.getElem?_cons_succ]); exact rfl) (by kernel_rfl) (by kernel_rfl) (by kernel_rfl) (by kernel_rfl) (by decide) (by intro _ _ _ h; exact h) (Or.inl ⟨by rfl, ?_⟩) (by assumption) ?_
            rotate_left
            · (intro w hSw; (try dsimp only at hSw); go_simp; (try with_reducible rfl))
            try simp only [Act.put, List.setIfInBounds_toArray, List.set_cons_zero, List.set_cons_succ]
            refine anyS_take (i := 13) (v := ?_) (by (simp only [List.getElem?_toArray, List.getElem?_cons_zero, List.getElem?_cons_succ]); exact rfl) (by kernel_rfl) (by kernel_rfl) (by kernel_rfl) (by kernel_rfl) (by decide) (by intro _ _ _ h; exact h) (Or.inl ⟨by rfl, ?_⟩) (by assumption) ?_
            rotate_left
            · (intro w hSw; (try dsimp only at hSw); go_simp; (try with_reducible rfl))
            try simp only [Act.put, List.setIfInBounds_toArray, List.set_cons_zero, List.set_cons_succ]
            refine anyS_take (i := 14) (v := ?_) (by (simp only [List.getElem?_toArray, List.getElem?_cons_zero, List.getElem?_cons_succ]); exact rfl) (by kernel_rfl) (by kernel_rfl) (by kernel_rfl) (by kernel_rfl) (by decide) (by intro _ _ _ h; exact h) (Or.inl ⟨by rfl, ?_⟩) (by assumption) ?_
            rotate_left
            · (intro w hSw; (try dsimp only at hSw); go_simp; (try with_reducible rfl))
            try simp only [Act.put, List.setIfInBounds_toArray, List.set_cons_zero, List.set_cons_succ]
            refine anyS_take (i := 15) (v := ?_) (by (simp only [List.getElem?_toArray, List.getElem?_cons_zero, List.getElem?_cons_succ]); exact rfl) (by kernel_rfl) (by kernel_rfl) (by kernel_rfl) (by kernel_rfl) (by decide) (by intro _ _ _ h; exact h) (Or.inl ⟨by rfl, ?_⟩) (by assumption) ?_
            rotate_left
            · (intro w hSw; (try dsimp only at hSw); go_simp; (try with_reducible rfl))
            try simp only [Act.put, List.setIfInBounds_toArray, List.set_cons_zero, List.set_cons_succ]
            refine anyS_take (i := 16) (v := ?_) (by (simp only [List.getElem?_toArray, List.getElem?_cons_zero, List.getElem?_cons_succ]); exact rfl) (by kernel_rfl) (by kernel_rfl) (by kernel_rfl) (by kernel_rfl) (by decide) (by intro _ _ _ h; exact h) (Or.inl ⟨by rfl, ?_⟩) (by assumption) ?_
            rotate_left
            · (intro w hSw; (try dsimp only at hSw); go_simp; (try with_reducible rfl))
            try simp only [Act.put, List.setIfInBounds_toArray, List.set_cons_zero, List.set_cons_succ]
            refine anyS_take (i := 17) (v := ?_) (by (simp only [List.getElem?_toArray, List.getElem?_cons_zero, List.getElem?_cons_succ]); exact rfl) (by kernel_rfl) (by kernel_rfl) (by kernel_rfl) (by kernel_rfl) (by decide) (by intro _ _ _ h; exact h) (Or.inl ⟨by rfl, ?_⟩) (by assumption) ?_
            rotate_left
            · (intro w hSw; (try dsimp only at hSw); go_simp; (try with_reducible rfl))
            try simp only [Act.put, List.setIfInBounds_toArray, List.set_cons_zero, List.set_cons_succ]
            refine anyS_take (i := 18) (v := ?_) (by (simp only [List.getElem?_toArray, List.getElem?_cons_zero, List.getElem?_cons_succ]); exact rfl) (by kernel_rfl) (by kernel_rfl) (by kernel_rfl) (by kernel_rfl) (by decide) (by intro _ _ _ h; exact h) (Or.inl ⟨by rfl, ?_⟩) (by assumption) ?_
            rotate_left
            · (intro w hSw; (try dsimp only at hSw); go_simp; (try with_reducible rfl))
            try simp only [Act.put, List.setIfInBounds_toArray, List.set_cons_zero, List.set_cons_succ]
            refine anyS_take (i := 19) (v := ?_) (by (simp only [List.getElem?_toArray, List.getElem?_cons_zero, List.getElem?_cons_succ]); exact rfl) (by kernel_rfl) (by kernel_rfl) (by kernel_rfl) (by kernel_rfl) (by decide) (by intro _ _ _ h; exact h) (Or.inl ⟨by rfl, ?_⟩) (by assumption) ?_
            rotate_left
            · (intro w hSw; (try dsimp only at hSw); go_simp; (try with_reducible rfl))
            try simp only [Act.put, List.setIfInBounds_toArray, List.set_cons_zero, List.set_cons_succ]
            refine anyS_take (i := 20) (v := ?_) (by (simp only [List.getElem?_toArray, List.getElem?_cons_zero, List.getElem?_cons_succ]); exact rfl) (by kernel_rfl) (by kernel_rfl) (by kernel_rfl) (by kernel_rfl) (by decide) (by intro _ _ _ h; exact h) (Or.inl ⟨by rfl, ?_⟩) (by assumption) ?_
            rotate_left
            · (intro w hSw; (try dsimp only at hSw); go_simp; (try with_reducible rfl))
            try simp only [Act.put, List.setIfInBounds_toArray, List.set_cons_zero, List.set_cons_succ]
            refine anyS_take (i := 21) (v := ?_) (by (simp only [List.getElem?_toArray, List.getElem?_cons_zero, List.getElem?_cons_succ]); exact rfl) (by kernel_rfl) (by kernel_rfl) (by kernel_rfl) (by kernel_rfl) (by decide) (by intro _ _ _ h; exact h) (Or.inl ⟨by rfl, ?_⟩) (by assumption) ?_
            rotate_left
            · (intro w hSw; (try dsimp only at hSw); go_simp; (try with_reducible rfl))
            try simp only [Act.put, List.setIfInBounds_toArray, List.set_cons_zero, List.set_cons_succ]
            refine anyS_take (i := 22) (v := ?_) (by (simp only [List.getElem?_toArray, List.getElem?_cons_zero, List.getElem?_cons_succ]); exact rfl) (by kernel_rfl) (by kernel_rfl) (by kernel_rfl) (by kernel_rfl) (by decide) (by intro _ _ _ h; exact h) (Or.inl ⟨by rfl, ?_⟩) (by assumption) ?_
            rotate_left
            · (intro w hSw; (try dsimp only at hSw); go_simp; (try with_reducible rfl))
            try simp only [Act.put, List.setIfInBounds_toArray, List.set_cons_zero, List.set_cons_succ]
            refine anyS_take (i := 23) (v := ?_) (by (simp only [List.getElem?_toArray, List.getElem?_cons_zero, List.getElem?_cons_succ]); exact rfl) (by kernel_rfl) (by kernel_rfl) (by kernel_rfl) (by kernel_rfl) (by decide) (by intro _ _ _ h; exact h) (Or.inl ⟨by rfl, ?_⟩) (by assumption) ?_
            rotate_left
            · (intro w hSw; (try dsimp only at hSw); go_simp; (try with_reducible rfl))
            try simp only [Act.put, List.setIfInBounds_toArray, List.set_cons_zero, List.set_cons_succ]
            refine anyS_take (i := 24) (v := ?_) (by (simp only [List.getElem?_toArray, List.getElem?_cons_zero, List.getElem?_cons_succ]); exact rfl) (by kernel_rfl) (by kernel_rfl) (by kernel_rfl) (by kernel_rfl) (by decide) (by intro _ _ _ h; exact h) (Or.inl ⟨by rfl, ?_⟩) (by assumption) ?_
            rotate_left
            · (intro w hSw; (try dsimp only at hSw); go_simp; (try with_reducible rfl))
            try simp only [Act.put, List.setIfInBounds_toArray, List.set_cons_zero, List.set_cons_succ]
            refine anyS_take (i := 25) (v := ?_) (by (simp only [List.getElem?_toArray, List.getElem?_cons_zero, List.getElem?_cons_succ]); exact rfl) (by kernel_rfl) (by kernel_rfl) (by kernel_rfl) (by kernel_rfl) (by decide) (by intro _ _ _ h; exact h) (Or.inl ⟨by rfl, ?_⟩) (by assumption) ?_
            rotate_left
            · (intro w hSw; (try dsimp only at hSw); go_simp; (try with_reducible rfl))
            try simp only [Act.put, List.setIfInBounds_toArray, List.set_cons_zero, List.set_cons_succ]
            refine anyS_exit (e := 26) (by kernel_rfl) (by (simp only [List.getElem?_toArray, List.getElem?_cons_zero, List.getElem?_cons_succ]); exact rfl) (by rfl) (fun K hK => ?_)
            have HH := Lib.hid hHeld.2.2.2.2.2.2.2.2
            obtain ⟨fn, tmps, assign, body, hy, hR⟩ := HY.out (m - 1) _ (q, v) _ HH.out.j HRM.out
            unfold encE Ky.cells at hy
            dsimp only at hy
            go_simp
            refine ⟨(fun h => absurd h (by decide)), ?_⟩
            refine RoundIn.mono hR ?_
            rintro e w'' (⟨rfl, h1, h2⟩ | ⟨rfl, h1⟩)
            · have HT1 := Lib.hid h1
              have HT2 := Lib.hid h2
              clear h1 h2 hR
              refine hK.out _ _ ?_
              clear hK K
              try simp only [Act.put, List.setIfInBounds_toArray, List.set_cons_zero, List.set_cons_succ]
              refine wpAnyIn_take (i := 27) (v := ?_) rfl (by (simp only [List.getElem?_toArray, List.getElem?_cons_zero, List.getElem?_cons_succ]); exact rfl) (by kernel_rfl) (by kernel_rfl) (by kernel_rfl) (by intro _ _ _ h; exact h) ⟨Or.inl ⟨by rfl, ?_⟩, fun _ => rfl⟩ ?_
              rotate_left
              · (intro w; go_simp; (try with_reducible rfl))
              try simp only [Act.put, List.setIfInBounds_toArray, List.set_cons_zero, List.set_cons_succ]
              refine wpAnyIn_take (i := 28) (v := ?_) rfl (by (simp only [List.getElem?_toArray, List.getElem?_cons_zero, List.getElem?_cons_succ]); exact rfl) (by kernel_rfl) (by kernel_rfl) (by kernel_rfl) (by intro _ _ _ h; exact h) ⟨Or.inl ⟨by rfl, ?_⟩, fun _ => rfl⟩ ?_
              rotate_left
              · (intro w; go_simp; (try with_reducible rfl))
              try simp only [Act.put, List.setIfInBounds_toArray, List.set_cons_zero, List.set_cons_succ]
              refine wpAnyIn_done (by kernel_rfl) ?_ _
              gi_wp2
              gi_meet
              exact .inl ⟨rfl, HAT2.out, HH.out.env.kept HT2.out, by rw [HFF.out, ← List.append_assoc]; exact HT1.out⟩
            · have HT1 := Lib.hid h1
              clear h1 hR
              refine hK.out _ _ ?_
              clear hK K
              try simp only [Act.put, List.setIfInBounds_toArray, List.set_cons_zero, List.set_cons_succ]
              refine wpAnyIn_take (i := 27) (v := ?_) rfl (by (simp only [List.getElem?_toArray, List.getElem?_cons_zero, List.getElem?_cons_succ]); exact rfl) (by kernel_rfl) (by kernel_rfl) (by kernel_rfl) (by intro _ _ _ h; exact h) ⟨Or.inl ⟨by rfl, ?_⟩, fun _ => rfl⟩ ?_
              rotate_left
              · (intro w; go_simp; (try with_reducible rfl))
              try simp only [Act.put, List.setIfInBounds_toArray, List.set_cons_zero, List.set_cons_succ]
              refine wpAnyIn_take (i := 28) (v := ?_) rfl (by (simp only [List.getElem?_toArray, List.getElem?_cons_zero, List.getElem?_cons_succ]); exact rfl) (by kernel_rfl) (by kernel_rfl) (by kernel_rfl) (by intro _ _ _ h; exact h) ⟨Or.inl ⟨by rfl, ?_⟩, fun _ => rfl⟩ ?_
              rotate_left
              · (intro w; go_simp; (try with_reducible rfl))
              try simp only [Act.put, List.setIfInBounds_toArray, List.set_cons_zero, List.set_cons_succ]
              refine wpAnyIn_done (by kernel_rfl) ?_ _
              gi_wp2
              gi_meet
              refine .inr ⟨rfl, .inr ⟨From ⟨at_, as_⟩ (flat c P x ++ c x) ++ [(q, v)], ?_, by rw [← List.append_assoc]; exact HT1.out⟩⟩
              rw [HRA.out, till_yes HB.out]
              exact ⟨till ⟨bt, bs⟩ (From ⟨at_, as_⟩ r8), by simp⟩
          · have hbf : bel q ⟨bt, bs⟩ = false := by simpa using hb
            clear hb
            have HBQ := Lib.hid (show ∀ W, Calls Try.prog 51 #[.agg #[.int .i64 q.t, .int .i64 q.s], .agg #[.int .i64 bt, .int .i64 bs]] W fun e w' => e = .returned (.bool false) ∧ Below W.heap.size W w' from fun W => (below_any q ⟨bt, bs⟩ W).mono (fun e w' h => ⟨by rw [h.1, hbf], h.2⟩))
            have HBF := Lib.hid hbf
            clear hbf
            have HS := Lib.hid (show ∀ w', Gd M l fb ob tb yb ⟨at_, as_⟩ ⟨bt, bs⟩ J (pre ++ From ⟨at_, as_⟩ (flat c P x ++ c x)) w' → (w'.cell? ⟨p, 0, none⟩ = some (.slice (some ⟨P.gk, 0, none⟩) P.ks.length P.ck) ∧ w'.cell? ⟨P.gk, x * 2, none⟩ = some (.int .i64 q.t) ∧ w'.cell? ⟨P.gk, x * 2 + 1, none⟩ = some (.int .i64 q.s) ∧ w'.cell? ⟨tb, 0, none⟩ = some (.int .i64 bt) ∧ w'.cell? ⟨tb, 1, none⟩ = some (.int .i64 bs) ∧ Gd M l fb ob tb yb ⟨at_, as_⟩ ⟨bt, bs⟩ J (pre ++ From ⟨at_, as_⟩ (flat c P x ++ c x)) w') from fun w' h => ⟨by rw [(h.env.page hM).blk.cell 0]; exact congrArg some HSK.out, by rw [HQ.out]; exact ((h.env.page hM).key hlt).1, by rw [HQ.out]; exact ((h.env.page hM).key hlt).2, h.env.ct.cell 0, h.env.ct.cell 1, h⟩)
            refine anyS_region (S := (fun w' => w'.cell? ⟨p, 0, none⟩ = some (.slice (some ⟨P.gk, 0, none⟩) P.ks.length P.ck) ∧ w'.cell? ⟨P.gk, x * 2, none⟩ = some (.int .i64 q.t) ∧ w'.cell? ⟨P.gk, x * 2 + 1, none⟩ = some (.int .i64 q.s) ∧ w'.cell? ⟨tb, 0, none⟩ = some (.int .i64 bt) ∧ w'.cell? ⟨tb, 1, none⟩ = some (.int .i64 bs) ∧ Gd M l fb ob tb yb ⟨at_, as_⟩ ⟨bt, bs⟩ J (pre ++ From ⟨at_, as_⟩ (flat c P x ++ c x)) w')) 1000 (by kernel_rfl) ?_ (fun hHeld => ?_)
            · exact HS.out _ (HG.out.below HJ.out ((Below.refl _ _).drew))
            refine anyS_take (i := 0) (v := ?_) (by (simp only [List.getElem?_toArray, List.getElem?_cons_zero]); exact rfl) (by kernel_rfl) (by kernel_rfl) (by kernel_rfl) (by kernel_rfl) (by decide) (by intro _ _ _ h; exact h) (Or.inl ⟨by rfl, ?_⟩) (by assumption) ?_
            rotate_left
            · (intro w hSw; (try dsimp only at hSw); go_simp; (try with_reducible rfl))
            try simp only [Act.put, List.setIfInBounds_toArray, List.set_cons_zero, List.set_cons_succ]
            refine anyS_take (i := 1) (v := ?_) (by (simp only [List.getElem?_toArray, List.getElem?_cons_zero, List.getElem?_cons_succ]); exact rfl) (by kernel_rfl) (by kernel_rfl) (by kernel_rfl) (by kernel_rfl) (by decide) (by intro _ _ _ h; exact h) (Or.inl ⟨by rfl, ?_⟩) (by assumption) ?_
            rotate_left
            · (intro w hSw; (try dsimp only at hSw); go_simp; (try with_reducible rfl))
            try simp only [Act.put, List.setIfInBounds_toArray, List.set_cons_zero, List.set_cons_succ]
            refine anyS_take (i := 2) (v := ?_) (by (simp only [List.getElem?_toArray, List.getElem?_cons_zero, List.getElem?_cons_succ]); exact rfl) (by kernel_rfl) (by kernel_rfl) (by kernel_rfl) (by kernel_rfl) (by decide) (by intro _ _ _ h; exact h) (Or.inl ⟨by rfl, ?_⟩) (by assumption) ?_
            rotate_left
            · (intro w hSw; (try dsimp only at hSw); go_simp; (try with_reducible rfl))
            try simp only [Act.put, List.setIfInBounds_toArray, List.set_cons_zero, List.set_cons_succ]
            refine anyS_take (i := 3) (v := ?_) (by (simp only [List.getElem?_toArray, List.getElem?_cons_zero, List.getElem?_cons_succ]); exact rfl) (by kernel_rfl) (by kernel_rfl) (by kernel_rfl) (by kernel_rfl) (by decide) (by intro _ _ _ h; exact h) (Or.inl ⟨by rfl, ?_⟩) (by assumption) ?_
            rotate_left
            · (intro w hSw; (try dsimp only at hSw); go_simp; (try with_reducible rfl))
            try simp only [Act.put, List.setIfInBounds_toArray, List.set_cons_zero, List.set_cons_succ]
            refine anyS_take (i := 4) (v := ?_) (by (simp only [List.getElem?_toArray, List.getElem?_cons_zero, List.getElem?_cons_succ]); exact rfl) (by kernel_rfl) (by kernel_rfl) (by kernel_rfl) (by kernel_rfl) (by decide) (by intro _ _ _ h; exact h) (Or.inl ⟨by rfl, ?_⟩) (by assumption) ?_
            rotate_left
            · (intro w hSw; (try dsimp only at hSw); go_simp; (try with_reducible rfl))
            try simp only [Act.put, List.setIfInBounds_toArray, List.set_cons_zero, List.set_cons_succ]
            refine anyS_take (i := 5) (v := ?_) (by (simp only [List.getElem?_toArray, List.getElem?_cons_zero, List.getElem?_cons_succ]); exact rfl) (by kernel_rfl) (by kernel_rfl) (by kernel_rfl) (by kernel_rfl) (by decide) (by intro _ _ _ h; exact h) (Or.inl ⟨by rfl, ?_⟩) (by assumption) ?_
            rotate_left
            · (intro w hSw; (try dsimp only at hSw); go_simp; (try with_reducible rfl))
            try simp only [Act.put, List.setIfInBounds_toArray, List.set_cons_zero, List.set_cons_succ]
            refine anyS_take (i := 6) (v := ?_) (by (simp only [List.getElem?_toArray, List.getElem?_cons_zero, List.getElem?_cons_succ]); exact rfl) (by kernel_rfl) (by kernel_rfl) (by kernel_rfl) (by kernel_rfl) (by decide) (by intro _ _ _ h; exact h) (Or.inl ⟨by rfl, ?_⟩) (by assumption) ?_
            rotate_left
            · (intro w hSw; (try dsimp only at hSw); go_simp; (try with_reducible rfl))
            try simp only [Act.put, List.setIfInBounds_toArray, List.set_cons_zero, List.set_cons_succ]
            refine anyS_take (i := 7) (v := ?_) (by (simp only [List.getElem?_toArray, List.getElem?_cons_zero, List.getElem?_cons_succ]); exact rfl) (by kernel_rfl) (by kernel_rfl) (by kernel_rfl) (by kernel_rfl) (by decide) (by intro _ _ _ h; exact h) (Or.inl ⟨by rfl, ?_⟩) (by assumption) ?_
            rotate_left
            · (intro w hSw; (try dsimp only at hSw); go_simp; (try with_reducible rfl))
            try simp only [Act.put, List.setIfInBounds_toArray, List.set_cons_zero, List.set_cons_succ]
            refine anyS_only (i := 8) (by kernel_rfl) (by decide) (by (simp only [List.getElem?_toArray, List.getElem?_cons_zero, List.getElem?_cons_succ]); exact rfl) (by rfl) (fun K hK => ?_)
            go_simp
            refine ⟨trivial, (fun h => absurd h (by decide)), ?_⟩
            gi_at_call 51
            refine (callsIn_wide.2 (HBQ.out _)).mono ?_
            rintro e w' ⟨rfl, hb⟩
            refine hK.out _ _ ?_ (fun hHeld => ?_)
            · exact HS.out _ (hHeld.2.2.2.2.2.below HJ.out hb)
            clear hK K
            try simp only [Act.put, List.setIfInBounds_toArray, List.set_cons_zero, List.set_cons_succ]
            refine anyS_take (i := 9) (v := ?_) (by (simp only [List.getElem?_toArray, List.getElem?_cons_zero, List.getElem?_cons_succ]); exact rfl) (by kernel_rfl) (by kernel_rfl) (by kernel_rfl) (by kernel_rfl) (by decide) (by intro _ _ _ h; exact h) (Or.inl ⟨by rfl, ?_⟩) (by assumption) ?_
            rotate_left
            · (intro w hSw; (try dsimp only at hSw); go_simp; (try with_reducible rfl))
            try simp only [Act.put, List.setIfInBounds_toArray, List.set_cons_zero, List.set_cons_succ]
            refine anyS_take (i := 10) (v := ?_) (by (simp only [List.getElem?_toArray, List.getElem?_cons_zero, List.getElem?_cons_succ]); exact rfl) (by kernel_rfl) (by kernel_rfl) (by kernel_rfl) (by kernel_rfl) (by decide) (by intro _ _ _ h; exact h) (Or.inl ⟨by rfl, ?_⟩) (by assumption) ?_
            rotate_left
            · (intro w hSw; (try dsimp only at hSw); go_simp; (try with_reducible rfl))
            try simp only [Act.put, List.setIfInBounds_toArray, List.set_cons_zero, List.set_cons_succ]
            refine anyS_take (i := 11) (v := undef) (by (simp only [List.getElem?_toArray, List.getElem?_cons_zero, List.getElem?_cons_succ]); exact rfl) (by kernel_rfl) (by kernel_rfl) (by kernel_rfl) (by kernel_rfl) (by decide) (by intro _ _ _ h; exact h) (Or.inr ⟨by rfl, rfl⟩) (by assumption) ?_
            try simp only [Act.put, List.setIfInBounds_toArray, List.set_cons_zero, List.set_cons_succ]
            refine anyS_take (i := 12) (v := undef) (by (simp only [List.getElem?_toArray, List.getElem?_cons_zero, List.getElem?_cons_succ]); exact rfl) (by kernel_rfl) (by kernel_rfl) (by kernel_rfl) (by kernel_rfl) (by decide) (by intro _ _ _ h; exact h) (Or.inr ⟨by rfl, rfl⟩) (by assumption) ?_
            try simp only [Act.put, List.setIfInBounds_toArray, List.set_cons_zero, List.set_cons_succ]
            refine anyS_take (i := 13) (v := undef) (by (simp only [List.getElem?_toArray, List.getElem?_cons_zero, List.getElem?_cons_succ]); exact rfl) (by kernel_rfl) (by kernel_rfl) (by kernel_rfl) (by kernel_rfl) (by decide) (by intro _ _ _ h; exact h) (Or.inr ⟨by rfl, rfl⟩) (by assumption) ?_
            try simp only [Act.put, List.setIfInBounds_toArray, List.set_cons_zero, List.set_cons_succ]
            refine anyS_take (i := 14) (v := undef) (by (simp only [List.getElem?_toArray, List.getElem?_cons_zero, List.getElem?_cons_succ]); exact rfl) (by kernel_rfl) (by kernel_rfl) (by kernel_rfl) (by kernel_rfl) (by decide) (by intro _ _ _ h; exact h) (Or.inr ⟨by rfl, rfl⟩) (by assumption) ?_
            try simp only [Act.put, List.setIfInBounds_toArray, List.set_cons_zero, List.set_cons_succ]
            refine anyS_take (i := 15) (v := undef) (by (simp only [List.getElem?_toArray, List.getElem?_cons_zero, List.getElem?_cons_succ]); exact rfl) (by kernel_rfl) (by kernel_rfl) (by kernel_rfl) (by kernel_rfl) (by decide) (by intro _ _ _ h; exact h) (Or.inr ⟨by rfl, rfl⟩) (by assumption) ?_
            try simp only [Act.put, List.setIfInBounds_toArray, List.set_cons_zero, List.set_cons_succ]
            refine anyS_take (i := 16) (v := undef) (by (simp only [List.getElem?_toArray, List.getElem?_cons_zero, List.getElem?_cons_succ]); exact rfl) (by kernel_rfl) (by kernel_rfl) (by kernel_rfl) (by kernel_rfl) (by decide) (by intro _ _ _ h; exact h) (Or.inr ⟨by rfl, rfl⟩) (by assumption) ?_
            try simp only [Act.put, List.setIfInBounds_toArray, List.set_cons_zero, List.set_cons_succ]
            refine anyS_take (i := 17) (v := undef) (by (simp only [List.getElem?_toArray, List.getElem?_cons_zero, List.getElem?_cons_succ]); exact rfl) (by kernel_rfl) (by kernel_rfl) (by kernel_rfl) (by kernel_rfl) (by decide) (by intro _ _ _ h; exact h) (Or.inr ⟨by rfl, rfl⟩) (by assumption) ?_
            try simp only [Act.put, List.setIfInBounds_toArray, List.set_cons_zero, List.set_cons_succ]
            refine anyS_take (i := 18) (v := undef) (by (simp only [List.getElem?_toArray, List.getElem?_cons_zero, List.getElem?_cons_succ]); exact rfl) (by kernel_rfl) (by kernel_rfl) (by kernel_rfl) (by kernel_rfl) (by decide) (by intro _ _ _ h; exact h) (Or.inr ⟨by rfl, rfl⟩) (by assumption) ?_
            try simp only [Act.put, List.setIfInBounds_toArray, List.set_cons_zero, List.set_cons_succ]
            refine anyS_take (i := 19) (v := undef) (by (simp only [List.getElem?_toArray, List.getElem?_cons_zero, List.getElem?_cons_succ]); exact rfl) (by kernel_rfl) (by kernel_rfl) (by kernel_rfl) (by kernel_rfl) (by decide) (by intro _ _ _ h; exact h) (Or.inr ⟨by rfl, rfl⟩) (by assumption) ?_
            try simp only [Act.put, List.setIfInBounds_toArray, List.set_cons_zero, List.set_cons_succ]
            refine anyS_take (i := 20) (v := undef) (by (simp only [List.getElem?_toArray, List.getElem?_cons_zero, List.getElem?_cons_succ]); exact rfl) (by kernel_rfl) (by kernel_rfl) (by kernel_rfl) (by kernel_rfl) (by decide) (by intro _ _ _ h; exact h) (Or.inr ⟨by rfl, rfl⟩) (by assumption) ?_
            try simp only [Act.put, List.setIfInBounds_toArray, List.set_cons_zero, List.set_cons_succ]
            refine anyS_take (i := 21) (v := undef) (by (simp only [List.getElem?_toArray, List.getElem?_cons_zero, List.getElem?_cons_succ]); exact rfl) (by kernel_rfl) (by kernel_rfl) (by kernel_rfl) (by kernel_rfl) (by decide) (by intro _ _ _ h; exact h) (Or.inr ⟨by rfl, rfl⟩) (by assumption) ?_
            try simp only [Act.put, List.setIfInBounds_toArray, List.set_cons_zero, List.set_cons_succ]
            refine anyS_take (i := 22) (v := undef) (by (simp only [List.getElem?_toArray, List.getElem?_cons_zero, List.getElem?_cons_succ]); exact rfl) (by kernel_rfl) (by kernel_rfl) (by kernel_rfl) (by kernel_rfl) (by decide) (by intro _ _ _ h; exact h) (Or.inr ⟨by rfl, rfl⟩) (by assumption) ?_
            try simp only [Act.put, List.setIfInBounds_toArray, List.set_cons_zero, List.set_cons_succ]
            refine anyS_take (i := 23) (v := undef) (by (simp only [List.getElem?_toArray, List.getElem?_cons_zero, List.getElem?_cons_succ]); exact rfl) (by kernel_rfl) (by kernel_rfl) (by kernel_rfl) (by kernel_rfl) (by decide) (by intro _ _ _ h; exact h) (Or.inr ⟨by rfl, rfl⟩) (by assumption) ?_
            try simp only [Act.put, List.setIfInBounds_toArray, List.set_cons_zero, List.set_cons_succ]
            refine anyS_take (i := 24) (v := undef) (by (simp only [List.getElem?_toArray, List.getElem?_cons_zero, List.getElem?_cons_succ]); exact rfl) (by kernel_rfl) (by kernel_rfl) (by kernel_rfl) (by kernel_rfl) (by decide) (by intro _ _ _ h; exact h) (Or.inr ⟨by rfl, rfl⟩) (by assumption) ?_
            try simp only [Act.put, List.setIfInBounds_toArray, List.set_cons_zero, List.set_cons_succ]
            refine anyS_take (i := 25) (v := undef) (by (simp only [List.getElem?_toArray, List.getElem?_cons_zero, List.getElem?_cons_succ]); exact rfl) (by kernel_rfl) (by kernel_rfl) (by kernel_rfl) (by kernel_rfl) (by decide) (by intro _ _ _ h; exact h) (Or.inr ⟨by rfl, rfl⟩) (by assumption) ?_
            try simp only [Act.put, List.setIfInBounds_toArray, List.set_cons_zero, List.set_cons_succ]
            refine anyS_take (i := 26) (v := undef) (by (simp only [List.getElem?_toArray, List.getElem?_cons_zero, List.getElem?_cons_succ]); exact rfl) (by kernel_rfl) (by kernel_rfl) (by kernel_rfl) (by kernel_rfl) (by decide) (by intro _ _ _ h; exact h) (Or.inr ⟨by rfl, rfl⟩) (by assumption) ?_
            try simp only [Act.put, List.setIfInBounds_toArray, List.set_cons_zero, List.set_cons_succ]
            refine anyS_take (i := 27) (v := undef) (by (simp only [List.getElem?_toArray, List.getElem?_cons_zero, List.getElem?_cons_succ]); exact rfl) (by kernel_rfl) (by kernel_rfl) (by kernel_rfl) (by kernel_rfl) (by decide) (by intro _ _ _ h; exact h) (Or.inr ⟨by rfl, rfl⟩) (by assumption) ?_
            try simp only [Act.put, List.setIfInBounds_toArray, List.set_cons_zero, List.set_cons_succ]
            refine anyS_take (i := 28) (v := ?_) (by (simp only [List.getElem?_toArray, List.getElem?_cons_zero, List.getElem?_cons_succ]); exact rfl) (by kernel_rfl) (by kernel_rfl) (by kernel_rfl) (by kernel_rfl) (by decide) (by intro _ _ _ h; exact h) (Or.inl ⟨by rfl, ?_⟩) (by assumption) ?_
            rotate_left
            · (intro w hSw; (try dsimp only at hSw); go_simp; (try with_reducible rfl))
            try simp only [Act.put, List.setIfInBounds_toArray, List.set_cons_zero, List.set_cons_succ]
            refine anyS_done (by kernel_rfl) ?_ _
            gi_wp2
            gi_meet
            refine .inr ⟨rfl, .inl ⟨fun hall => ?_, ?_⟩⟩
            · have := hall _ HRM0.out
              rw [HBF.out] at this
              cases this
            · rw [HRA.out, till_no HBF.out, List.append_nil]
              exact hHeld.2.2.2.2.2.j
        rcases hcut with ⟨rfl, hat, hg⟩ | ⟨rfl, hout⟩
        · have HAT2 := Lib.hid hat
          have HG2 := Lib.hid hg
          clear hat hg
          gi_wp2
          gi_roundg (P.ks.length + 1 - (x + 1))
          case measure => omega
          case rel => exact ⟨x + 1, by omega, by omega, rfl, by go_num, HAT2.out, HG2.out⟩
        · gi_wp2
          go_ret
          exact .inr ⟨rfl, hout⟩
      · obtain rfl : x = P.ks.length := by omega
        have HE : OutT M l fb ob tb yb ⟨at_, as_⟩ ⟨bt, bs⟩ J pre es wc := ⟨by rw [HES.out]; exact HAT.out, by rw [HES.out]; exact HG.out.j, HG.out.env⟩
        have HE := Lib.hid HE
        gi_wp2
        go_ret
        exact .inl ⟨rfl, HE.out⟩
    · gi_wp2
      go_ret
      exact .inr ⟨rfl, hout⟩
end
end Go.Proofs.Ytmmikolcipcldaa
