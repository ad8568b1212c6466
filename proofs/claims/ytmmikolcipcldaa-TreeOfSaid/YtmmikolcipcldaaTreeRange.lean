/-
  What is proved here: a tree's range is a sequence of its entries in order, from a key on, ahead of another (chapter 15). Conditions: each theorem's own.
-/
import Derived.Test.YtmmikolcipcldaaTreeOver
import Derived.Laws.EntriesVeiled
namespace Go.Proofs.Ytmmikolcipcldaa
open Go.RowKit Go.Deep
attribute [local go_sem] Oper.semAt_some

theorem over_in {M : Nat → Option Pg} {l fb ob tb yb N : Nat} {a b : Ky} {J Jx : List En → World → Prop} (hJ : ∀ pre W W', J pre W → Below W.heap.size W W' → J pre W')
    (hY : ∀ m pre x W, J pre W → pre.length < N → YieldAt Fence.wide m Try.prog l (encE x) W fun e W' =>
      (e = .returned (.bool true) ∧ J (pre ++ [x]) W' ∧ Kept W W') ∨ (e = .returned (.bool false) ∧ Jx (pre ++ [x]) W')) {d : Nat} (hd : d ≤ 16) :
    ∀ (h lo p : Nat) (es : List En) (fs : List Nat), Tr d M h lo p es fs → Up es →
      ∀ (m : Nat) (pre : List En) (W : World), Gd M l fb ob tb yb a b J pre W → pre.length + (ranged a b es).length ≤ N →
        CallsIn Fence.wide m Try.prog 50 #[.pointer (some ⟨p, 0, none⟩), .pointer (some ⟨fb, 0, none⟩), .pointer (some ⟨ob, 0, none⟩), .pointer (some ⟨tb, 0, none⟩), .pointer (some ⟨yb, 0, none⟩)] W (OutP M l fb ob tb yb a b J Jx pre es) := by
  intro h
  induction h with
  | zero =>
    intro lo p es fs ht hup
    obtain ⟨P, c, hM, hvl, hkl, hes, hk⟩ := ht.opened
    refine over_node hJ hY p P c es hM hvl (by omega) hes hup ?_
    rcases hk with h | ⟨h', f, h1, _⟩
    · exact .inl h
    · omega
  | succ h ih =>
    intro lo p es fs ht hup
    obtain ⟨P, c, hM, hvl, hkl, hes, hk⟩ := ht.opened
    refine over_node hJ hY p P c es hM hvl (by omega) hes hup ?_
    rcases hk with h | ⟨h', f, h1, h2, h3⟩
    · exact .inl h
    · obtain rfl : h' = h := by omega
      refine .inr ⟨h2, fun i hi m pre W hG hN => ?_⟩
      obtain ⟨r, hr⟩ := kid_mem hes hi
      have hu : Up (c i) := by rw [hr] at hup; exact hup.right.left
      exact ih (d - 1) _ _ (f i) (h3 i hi) hu m pre W hG hN

/-- a tree in memory. -/
def TreeAt (w : World) (tr d : Nat) (root : Option Nat) (cnt : Int) : Prop := Blk w tr 71 #[.int .i64 d, .pointer (root.map (fun p => ⟨p, 0, none⟩)), .int .i64 cnt]
/-- what a range reads ahead of its first step. -/
structure RE (M : Nat → Option Pg) (fb tb xb tr d : Nat) (root : Option Nat) (cnt : Int) (a b : Ky) (W : World) : Prop where
  page : ∀ {p P}, M p = some P → PageAt W p P
  cf : Blk W fb 24 a.cells
  ct : Blk W tb 24 b.cells
  cx : Blk W xb 26 #[.pointer (some ⟨tr, 0, none⟩)]
  tree : TreeAt W tr d root cnt
theorem RE.on {M : Nat → Option Pg} {fb tb xb tr d : Nat} {root : Option Nat} {cnt : Int} {a b : Ky} {W W' : World} (h : RE M fb tb xb tr d root cnt a b W) (hb : Below W.heap.size W W') : RE M fb tb xb tr d root cnt a b W' :=
  ⟨fun hp => (h.page hp).on hb, h.cf.below hb h.cf.lt, h.ct.below hb h.ct.lt, h.cx.below hb h.cx.lt, Blk.below h.tree hb (Blk.lt h.tree)⟩
/-- the entries of a tree. -/
def Ents (d : Nat) (M : Nat → Option Pg) (root : Option Nat) (es : List En) : Prop := (root = none ∧ es = []) ∨ ∃ p h lo fs, root = some p ∧ Tr d M h lo p es fs

set_option maxRecDepth 100000 in
set_option maxHeartbeats 4000000 in
theorem range1_in {M : Nat → Option Pg} {l fb tb xb tr d N : Nat} {root : Option Nat} {cnt : Int} {a b : Ky} {J Jx : List En → World → Prop} {es : List En} (hJ : ∀ pre W W', J pre W → Below W.heap.size W W' → J pre W')
    (hY : ∀ m pre x W, J pre W → pre.length < N → YieldAt Fence.wide m Try.prog l (encE x) W fun e W' =>
      (e = .returned (.bool true) ∧ J (pre ++ [x]) W' ∧ Kept W W') ∨ (e = .returned (.bool false) ∧ Jx (pre ++ [x]) W')) (hd : d ≤ 16)
    (hes : Ents d M root es) (hup : Up es) (hN : (ranged a b es).length ≤ N) (m : Nat) (W : World) (hR : RE M fb tb xb tr d root cnt a b W) (hj : J [] W) :
    CallsIn Fence.wide m Try.prog 49 #[.func (.yield l) #[] #[], .pointer (some ⟨fb, 0, none⟩), .pointer (some ⟨tb, 0, none⟩), .pointer (some ⟨xb, 0, none⟩)] W fun e W' => (∃ v, e = .returned v) ∧
      ((∃ ys, ys = ranged a b es ∧ J ys W') ∨ (∃ pre, pre <+: ranged a b es ∧ Jx pre W')) := by
  have hmf : ∀ (fn : Fn) (first cap : Array Value) (w : World), (Instr.makeFunc fn first cap).run Try.prog w = .ok (.func fn first cap) w := fun _ _ _ _ => rfl
  have HJ := Lib.hid hJ
  have HY := Lib.hid hY
  have HES := Lib.hid hes
  have HUP := Lib.hid hup
  have HN := Lib.hid hN
  have HR := Lib.hid hR
  have HJ0 := Lib.hid hj
  have cx : W.cell? ⟨xb, 0, none⟩ = some (.pointer (some ⟨tr, 0, none⟩)) := hR.cx.cell 0
  have hx : xb < W.heap.size := hR.cx.lt
  have cr : W.cell? ⟨tr, 1, none⟩ = some (.pointer (root.map (fun p => ⟨p, 0, none⟩))) := Blk.cell hR.tree 1
  have hx2 : tr < W.heap.size := Blk.lt hR.tree
  clear hJ hY hes hup hN hR hj
  rcases HES.out with ⟨rfl, rfl⟩ | ⟨p, h, lo, fs, rfl, ht⟩
  · have cr' : W.cell? ⟨tr, 1, none⟩ = some (.pointer none) := cr
    clear cr
    refine callsIn_of_wp Try.func49 rfl trivial ?_ rfl
    simp only [Try.ntmps49, List.size_toArray, List.length_cons, List.length_nil, Nat.reduceAdd, Nat.reduceSub, Array.replicate_succ, Array.replicate_zero, List.push_toArray, List.append_toArray, List.nil_append, List.cons_append]
    gi_wp2
    go_end0
    refine ⟨⟨_, rfl⟩, .inl ⟨[], rfl, HJ.out _ _ _ HJ0.out ?_⟩⟩
    (repeat (first | (with_reducible assumption) | (with_reducible exact Below.refl _ _) | ((with_reducible refine Below.setCell ?_ ?_ _); rotate_left; · (first | omega | (simp; done) | (simp; omega) | (simp at *; omega))) | ((with_reducible refine Below.alloc ?_ ?_ _); rotate_left; · (first | omega | (simp; done) | (simp; omega) | (simp at *; omega))) | (with_reducible refine Below.drew ?_) | (with_reducible refine below_drewN ?_ _) | ((refine Below.trans ?_ (Below.mono (by with_reducible assumption) ?_)); rotate_left; · (first | omega | (simp; done) | (simp; omega) | (simp at *; omega)))))
  · have cr' : W.cell? ⟨tr, 1, none⟩ = some (.pointer (some ⟨p, 0, none⟩)) := cr
    have HT := Lib.hid ht
    clear cr ht
    refine callsIn_of_wp Try.func49 rfl trivial ?_ rfl
    simp only [Try.ntmps49, List.size_toArray, List.length_cons, List.length_nil, Nat.reduceAdd, Nat.reduceSub, Array.replicate_succ, Array.replicate_zero, List.push_toArray, List.append_toArray, List.nil_append, List.cons_append]
    gi_upto_region 4 with fail
    obtain ⟨w1, hw⟩ : ∃ wq : World, wq = (W.alloc (.cells #[.func (.yield l) #[] #[]] 68)).alloc (.cells #[.func (.func 50) #[] #[.pointer (some ⟨fb, 0, none⟩), .pointer (some ⟨W.heap.size + 1, 0, none⟩), .pointer (some ⟨tb, 0, none⟩), .pointer (some ⟨W.heap.size, 0, none⟩)]] 102) := ⟨_, rfl⟩
    rw [← hw]
    have hb1 : Below W.heap.size W w1 := by rw [hw]; (repeat (first | (with_reducible assumption) | (with_reducible exact Below.refl _ _) | ((with_reducible refine Below.setCell ?_ ?_ _); rotate_left; · (first | omega | (simp; done) | (simp; omega) | (simp at *; omega))) | ((with_reducible refine Below.alloc ?_ ?_ _); rotate_left; · (first | omega | (simp; done) | (simp; omega) | (simp at *; omega))) | (with_reducible refine Below.drew ?_) | (with_reducible refine below_drewN ?_ _) | ((refine Below.trans ?_ (Below.mono (by with_reducible assumption) ?_)); rotate_left; · (first | omega | (simp; done) | (simp; omega) | (simp at *; omega)))))
    have HR1 := Lib.hid (HR.out.on hb1)
    have HO1 := Lib.hid (show Blk w1 (W.heap.size + 1) 102 _ by rw [hw]; have := Blk.new (W.alloc (.cells #[.func (.yield l) #[] #[]] 68)) 102 #[.func (.func 50) #[] #[.pointer (some ⟨fb, 0, none⟩), .pointer (some ⟨W.heap.size + 1, 0, none⟩), .pointer (some ⟨tb, 0, none⟩), .pointer (some ⟨W.heap.size, 0, none⟩)]]; rw [World.size_alloc] at this; exact this)
    have HY1 := Lib.hid (show Blk w1 W.heap.size 68 _ by rw [hw]; exact (Blk.new W 68 #[.func (.yield l) #[] #[]]).alloc _)
    have HG := Lib.hid (show Gd M l fb (W.heap.size + 1) tb W.heap.size a b J [] w1 from ⟨⟨HR1.out.page, HR1.out.cf, HR1.out.ct, HO1.out, HY1.out⟩, HJ.out _ _ _ HJ0.out hb1⟩)
    obtain ⟨ob, hob⟩ : ∃ ob, ob = W.heap.size + 1 := ⟨_, rfl⟩
    obtain ⟨yb, hyb⟩ : ∃ yb, yb = W.heap.size := ⟨_, rfl⟩
    rw [← hob, ← hyb] at HG ⊢
    clear hw hb1 HO1 HY1 hob hyb cx cr'
    have hG := HG.out.below HJ.out ((Below.refl _ w1).drew)
    have hR1 := HR1.out.on ((Below.refl _ w1).drew)
    have HS := Lib.hid (show w1.drew.cell? ⟨ob, 0, none⟩ = some (.func (.func 50) #[] #[.pointer (some ⟨fb, 0, none⟩), .pointer (some ⟨ob, 0, none⟩), .pointer (some ⟨tb, 0, none⟩), .pointer (some ⟨yb, 0, none⟩)]) ∧ w1.drew.cell? ⟨xb, 0, none⟩ = some (.pointer (some ⟨tr, 0, none⟩)) ∧ w1.drew.cell? ⟨tr, 1, none⟩ = some (.pointer (some ⟨p, 0, none⟩)) ∧ Gd M l fb ob tb yb a b J [] w1.drew from ⟨hG.env.co.cell 0, hR1.cx.cell 0, Blk.cell hR1.tree 1, hG⟩)
    clear hG hR1
    refine anyS_region (S := (fun w' => w'.cell? ⟨ob, 0, none⟩ = some (.func (.func 50) #[] #[.pointer (some ⟨fb, 0, none⟩), .pointer (some ⟨ob, 0, none⟩), .pointer (some ⟨tb, 0, none⟩), .pointer (some ⟨yb, 0, none⟩)]) ∧ w'.cell? ⟨xb, 0, none⟩ = some (.pointer (some ⟨tr, 0, none⟩)) ∧ w'.cell? ⟨tr, 1, none⟩ = some (.pointer (some ⟨p, 0, none⟩)) ∧ Gd M l fb ob tb yb a b J [] w')) 5 (by kernel_rfl) ?_ (fun hHeld => ?_)
    · exact HS.out
    refine anyS_take (i := 0) (v := ?_) (by (simp only [List.getElem?_toArray, List.getElem?_cons_zero]); exact rfl) (by kernel_rfl) (by kernel_rfl) (by kernel_rfl) (by kernel_rfl) (by decide) (by intro _ _ _ h; exact h) (Or.inl ⟨by rfl, ?_⟩) (by assumption) ?_
    rotate_left
    · (intro w hSw; (try dsimp only at hSw); go_simp; (try with_reducible rfl))
    try simp only [Act.put, List.setIfInBounds_toArray, List.set_cons_zero, List.set_cons_succ]
    refine anyS_take (i := 1) (v := ?_) (by (simp only [List.getElem?_toArray, List.getElem?_cons_zero, List.getElem?_cons_succ]); exact rfl) (by kernel_rfl) (by kernel_rfl) (by kernel_rfl) (by kernel_rfl) (by decide) (by intro _ _ _ h; exact h) (Or.inl ⟨by rfl, ?_⟩) (by assumption) ?_
    rotate_left
    · (intro w hSw; (try dsimp only at hSw); go_simp; (try with_reducible rfl))
    try simp only [Act.put, List.setIfInBounds_toArray, List.set_cons_zero, List.set_cons_succ]
    refine anyS_take (i := 2) (v := ?_) (by (simp only [List.getElem?_toArray, List.getElem?_cons_zero, List.getElem?_cons_succ]); exact rfl) (by kernel_rfl) (by kernel_rfl) (by kernel_rfl) (by kernel_rfl) (by decide) (by intro _ _ _ h; exact h) (Or.inl ⟨by rfl, ?_⟩) (by assumption) ?_
    rotate_left
    · (intro w hSw; (try dsimp only at hSw); go_simp; (try with_reducible rfl))
    try simp only [Act.put, List.setIfInBounds_toArray, List.set_cons_zero, List.set_cons_succ]
    refine anyS_take (i := 3) (v := ?_) (by (simp only [List.getElem?_toArray, List.getElem?_cons_zero, List.getElem?_cons_succ]); exact rfl) (by kernel_rfl) (by kernel_rfl) (by kernel_rfl) (by kernel_rfl) (by decide) (by intro _ _ _ h; exact h) (Or.inl ⟨by rfl, ?_⟩) (by assumption) ?_
    rotate_left
    · (intro w hSw; (try dsimp only at hSw); go_simp; (try with_reducible rfl))
    try simp only [Act.put, List.setIfInBounds_toArray, List.set_cons_zero, List.set_cons_succ]
    refine anyS_take (i := 4) (v := ?_) (by (simp only [List.getElem?_toArray, List.getElem?_cons_zero, List.getElem?_cons_succ]); exact rfl) (by kernel_rfl) (by kernel_rfl) (by kernel_rfl) (by kernel_rfl) (by decide) (by intro _ _ _ h; exact h) (Or.inl ⟨by rfl, ?_⟩) (by assumption) ?_
    rotate_left
    · (intro w hSw; (try dsimp only at hSw); go_simp; (try with_reducible rfl))
    try simp only [Act.put, List.setIfInBounds_toArray, List.set_cons_zero, List.set_cons_succ]
    refine anyS_exit (e := 5) (by kernel_rfl) (by (simp only [List.getElem?_toArray, List.getElem?_cons_zero, List.getElem?_cons_succ]); exact rfl) (by rfl) (fun K hK => ?_)
    have HO := Lib.hid (over_in HJ.out HY.out hd h lo p es fs HT.out HUP.out (m - 1) [] _ hHeld.2.2.2 (by simpa using HN.out))
    go_simp
    refine ⟨trivial, (fun h => absurd h (by decide)), ?_⟩
    gi_at_call 50
    refine HO.out.mono ?_
    rintro e w' (⟨rfl, h1, h2, h3⟩ | ⟨rfl, hout⟩)
    · have H1 := Lib.hid h1
      have H2 := Lib.hid h2
      clear h1 h2 h3
      refine hK.out _ _ ?_
      clear hK K
      try simp only [Act.put, List.setIfInBounds_toArray, List.set_cons_zero, List.set_cons_succ]
      refine wpAnyIn_done (by kernel_rfl) ?_ _
      gi_wp2
      go_end0
      refine ⟨⟨_, rfl⟩, .inl ⟨_, rfl, ?_⟩⟩
      unfold ranged
      rw [till_all H1.out]
      exact H2.out
    · have H1 := Lib.hid hout
      clear hout
      refine hK.out _ _ ?_
      clear hK K
      try simp only [Act.put, List.setIfInBounds_toArray, List.set_cons_zero, List.set_cons_succ]
      refine wpAnyIn_done (by kernel_rfl) ?_ _
      gi_wp2
      go_end0
      refine ⟨⟨_, rfl⟩, ?_⟩
      rcases H1.out with ⟨_, h2⟩ | ⟨q, hq, hx⟩
      · exact .inl ⟨_, rfl, h2⟩
      · exact .inr ⟨q, hq, hx⟩
end Go.Proofs.Ytmmikolcipcldaa
