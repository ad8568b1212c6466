/-
  What is proved here: all that a tree's range tells, gathered in a new list (chapter 15). Conditions: each theorem's own.
-/
import Derived.Test.YtmmikolcipcldaaTreeRange
import Derived.RangeFuncBox
namespace Go.Proofs.Ytmmikolcipcldaa
open Go.RowKit Go.Deep
attribute [local go_sem] Oper.semAt_some

set_option maxHeartbeats 1000000 in
theorem range_any (tr : Nat) (a b : Ky) (w : World) :
    Calls Try.prog 35 #[.pointer (some ⟨tr, 0, none⟩), .agg a.cells, .agg b.cells] w fun e w' =>
      e = .returned (.func (.func 49) #[] #[.pointer (some ⟨w.heap.size + 1, 0, none⟩), .pointer (some ⟨w.heap.size + 2, 0, none⟩), .pointer (some ⟨w.heap.size, 0, none⟩)]) ∧
      w' = ((w.alloc (.cells #[.pointer (some ⟨tr, 0, none⟩)] 26)).alloc (.cells a.cells 24)).alloc (.cells b.cells 24) := by
  obtain ⟨at_, as_⟩ := a
  obtain ⟨bt, bs⟩ := b
  unfold Ky.cells
  dsimp only
  have hmf : ∀ (fn : Fn) (first cap : Array Value) (w : World), (Instr.makeFunc fn first cap).run Try.prog w = .ok (.func fn first cap) w := fun _ _ _ _ => rfl
  go_enter Try.func35, Try.ntmps35
  go_wp2_with fail
  go_ret
  exact ⟨rfl, rfl⟩

theorem range_stops {M : Nat → Option Pg} {fb tb xb tr d : Nat} {root : Option Nat} {cnt : Int} {a b : Ky} {es : List En} (hd : d ≤ 16) (hes : Ents d M root es) (hup : Up es) (n : Nat) (w : World) (hR : RE M fb tb xb tr d root cnt a b w) :
    SeqStopsK Fence.wide n Try.prog 49 #[.pointer (some ⟨fb, 0, none⟩), .pointer (some ⟨tb, 0, none⟩), .pointer (some ⟨xb, 0, none⟩)] encE Kept (fun ys => ys = ranged a b es) (fun pre => pre <+: ranged a b es) (ranged a b es).length w := by
  intro l J Jx W hW hJ _ hY h0
  have hJ' : ∀ pre W1 W', J pre W1 → Below W1.heap.size W1 W' → J pre W' := fun pre W1 W' hj hb => hJ pre W1 W' none hj ⟨hb.os, hb.tape, hb.output, hb.size, fun i hi _ => hb.block i hi⟩ (fun r e => by cases e)
  exact range1_in hJ' (fun m pre x W1 hj hl => by
    obtain ⟨fn, tmps, assign, body, hy, hR⟩ := hY pre x W1 hj hl
    exact ⟨fn, tmps, assign, body, hy, hR.1, fun c cs _ => hR.2 c cs (fun d h => by cases h)⟩) hd hes hup (Nat.le_refl _) n W (hR.on hW) h0

/-- an entry's cells. -/
def ecells (es : List En) : List Value := es.flatMap (fun e => [.int .i64 e.1.t, .int .i64 e.1.s, .int .i64 e.2])
theorem ecells_app (a b : List En) : ecells (a ++ b) = ecells a ++ ecells b := by simp [ecells]
theorem ecells_len (es : List En) : (ecells es).length = es.length * 3 := by
  induction es with
  | nil => rfl
  | cons x es ih => show ([.int .i64 x.1.t, .int .i64 x.1.s, .int .i64 x.2] ++ ecells es : List Value).length = _; rw [List.length_append, ih, List.length_cons, List.length_cons, List.length_cons, List.length_cons, List.length_nil]; omega
theorem own_snoc {W : World} {base : Nat} {v : Value} {pre : List En} {xt xs xv : Int} (h : W.ownsRow base 44 3 v (pre.length + 1) (ecells pre ++ [.int .i64 xt, .int .i64 xs, .int .i64 xv])) :
    W.ownsRow base 44 3 v (pre ++ [((⟨xt, xs⟩ : Ky), xv)]).length (ecells (pre ++ [((⟨xt, xs⟩ : Ky), xv)])) := by
  rw [List.length_append, ecells_app]
  exact h
theorem infoEn : (Try.prog.info? 44).map (fun i => (i.zero, i.size, i.bytes)) = some (some (.agg #[.int .i64 0, .int .i64 0, .int .i64 0]), 3, 24) := by kernel_rfl

theorem Kept.setBox {W : World} {B : Nat} {v : Value} (h : Boxed W B 31 v) (u : Value) : Kept W (W.setCell ⟨B, 0, none⟩ u) :=
  ⟨rfl, rfl, rfl, (KeepsWalks.setCell W _ u).size, fun k cs t fr hk h1 _ => Below.heap_setCell _ _ _ k (fun e => by
    have e2 : k = B := e
    subst e2
    rw [show W.heap[k]? = _ from h] at hk
    cases hk
    exact h1 rfl)⟩
theorem Kept.grown {W W' : World} {base : Nat} {v : Value} {n : Nat} {xs : List Value} (h : W.ownsRow base 44 3 v n xs) (hg : W.grownBy W' v.ownBlock) : Kept W W' :=
  ⟨hg.os, hg.tape, hg.output, hg.size, fun k cs t fr hk _ h2 => hg.block k (Array.getElem?_eq_some_iff.1 hk).1 (fun e => by
    rcases h.2 with ⟨rfl, _⟩ | ⟨g, cap, cur, rfl, _, hgb, _⟩
    · cases e
    · obtain rfl : k = g := by simpa [Value.ownBlock] using e
      rw [hgb] at hk
      cases hk
      exact h2 rfl)⟩

set_option maxRecDepth 100000 in
set_option maxHeartbeats 4000000 in
theorem gathered_in {M : Nat → Option Pg} {tr d : Nat} {root : Option Nat} {cnt : Int} {es : List En} (hd : d ≤ 16) (hes : Ents d M root es) (hup : Up es) (hlen : es.length ≤ 4294967296) (a b : Ky) (w : World) (hM : ∀ {p P}, M p = some P → PageAt w p P) (hT : TreeAt w tr d root cnt) :
    CallsIn Fence.wide 10 Try.prog 17 #[.pointer (some ⟨tr, 0, none⟩), .agg a.cells, .agg b.cells] w fun e w' => ∃ v, e = .returned v ∧ w'.ownsRow w.heap.size 44 3 v (ranged a b es).length (ecells (ranged a b es)) ∧ Below w.heap.size w w' := by
  obtain ⟨i0, hi0, hz0, hz1, hz2⟩ := info_parts infoEn
  obtain ⟨at_, as_⟩ := a
  obtain ⟨bt, bs⟩ := b
  have HES := Lib.hid hes
  have HUP := Lib.hid hup
  have HM := Lib.hid (fun p P => @hM p P)
  have HT := Lib.hid hT
  clear hes hup hM hT
  refine callsIn_of_wp_marks Try.func17 rfl trivial ?_ rfl
  simp only [Try.ntmps17, List.size_toArray, List.length_cons, List.length_nil, Nat.reduceAdd, Nat.reduceSub, Array.replicate_succ, Array.replicate_zero, List.push_toArray, List.append_toArray, List.nil_append, List.cons_append, Ky.cells]
  gi_wp2_with (refine ⟨trivial, ?_⟩; gi_at_call 35; refine (callsIn_wide.2 (range_any tr ⟨at_, as_⟩ ⟨bt, bs⟩ _)).mono ?_; rintro e w1 ⟨rfl, rfl⟩)
  obtain ⟨W0, hW0⟩ : ∃ wq : World, wq = ((((((w.alloc (Obj.cells #[Value.int IntKind.i64 at_, Value.int IntKind.i64 as_] 24)).alloc (Obj.cells #[Value.int IntKind.i64 bt, Value.int IntKind.i64 bs] 24)).alloc (Obj.cells #[Value.slice none 0 0] 31)).alloc (Obj.cells #[Value.pointer (some ⟨tr, 0, none⟩)] 26)).alloc (Obj.cells (Ky.mk at_ as_).cells 24)).alloc (Obj.cells (Ky.mk bt bs).cells 24)) := ⟨_, rfl⟩
  rw [← hW0]
  have hsz : W0.heap.size = w.heap.size + 6 := by rw [hW0]; simp
  have hB0 : Below w.heap.size w W0 := by rw [hW0]; (repeat (first | (with_reducible assumption) | (with_reducible exact Below.refl _ _) | ((with_reducible refine Below.setCell ?_ ?_ _); rotate_left; · (first | omega | (simp; done) | (simp; omega) | (simp at *; omega))) | ((with_reducible refine Below.alloc ?_ ?_ _); rotate_left; · (first | omega | (simp; done) | (simp; omega) | (simp at *; omega))) | (with_reducible refine Below.drew ?_) | (with_reducible refine below_drewN ?_ _) | ((refine Below.trans ?_ (Below.mono (by with_reducible assumption) ?_)); rotate_left; · (first | omega | (simp; done) | (simp; omega) | (simp at *; omega)))))
  have bL : Boxed W0 (w.heap.size + 1 + 1) 31 (.slice none 0 0) := by
    rw [hW0]
    have := (((Boxed.new ((w.alloc (Obj.cells #[Value.int IntKind.i64 at_, Value.int IntKind.i64 as_] 24)).alloc (Obj.cells #[Value.int IntKind.i64 bt, Value.int IntKind.i64 bs] 24)) 31 (.slice none 0 0)).alloc (Obj.cells #[Value.pointer (some ⟨tr, 0, none⟩)] 26)).alloc (Obj.cells (Ky.mk at_ as_).cells 24)).alloc (Obj.cells (Ky.mk bt bs).cells 24)
    simp only [World.size_alloc] at this
    exact this
  have hR : RE M (w.heap.size + 1 + 1 + 1 + 1) (w.heap.size + 1 + 1 + 1 + 2) (w.heap.size + 1 + 1 + 1) tr d root cnt ⟨at_, as_⟩ ⟨bt, bs⟩ W0 := by
    refine ⟨fun hp => (HM.out _ _ hp).on hB0, ?_, ?_, ?_, Blk.below HT.out hB0 (Blk.lt HT.out)⟩
    · rw [hW0]
      have := (Blk.new ((((w.alloc (Obj.cells #[Value.int IntKind.i64 at_, Value.int IntKind.i64 as_] 24)).alloc (Obj.cells #[Value.int IntKind.i64 bt, Value.int IntKind.i64 bs] 24)).alloc (Obj.cells #[Value.slice none 0 0] 31)).alloc (Obj.cells #[Value.pointer (some ⟨tr, 0, none⟩)] 26)) 24 (Ky.mk at_ as_).cells).alloc (Obj.cells (Ky.mk bt bs).cells 24)
      simp only [World.size_alloc] at this
      exact this
    · rw [hW0]
      have := Blk.new (((((w.alloc (Obj.cells #[Value.int IntKind.i64 at_, Value.int IntKind.i64 as_] 24)).alloc (Obj.cells #[Value.int IntKind.i64 bt, Value.int IntKind.i64 bs] 24)).alloc (Obj.cells #[Value.slice none 0 0] 31)).alloc (Obj.cells #[Value.pointer (some ⟨tr, 0, none⟩)] 26)).alloc (Obj.cells (Ky.mk at_ as_).cells 24)) 24 (Ky.mk bt bs).cells
      simp only [World.size_alloc] at this
      exact this
    · rw [hW0]
      have := ((Blk.new (((w.alloc (Obj.cells #[Value.int IntKind.i64 at_, Value.int IntKind.i64 as_] 24)).alloc (Obj.cells #[Value.int IntKind.i64 bt, Value.int IntKind.i64 bs] 24)).alloc (Obj.cells #[Value.slice none 0 0] 31)) 26 #[Value.pointer (some ⟨tr, 0, none⟩)]).alloc (Obj.cells (Ky.mk at_ as_).cells 24)).alloc (Obj.cells (Ky.mk bt bs).cells 24)
      simp only [World.size_alloc] at this
      exact this
  have hN : (ranged ⟨at_, as_⟩ ⟨bt, bs⟩ es).length ≤ es.length := by
    unfold ranged till From
    exact Nat.le_trans (List.takeWhile_sublist _).length_le (List.length_filter_le _ _)
  clear hW0
  refine wpIn_rangeFunc_ownH rfl (by decide) (gf := 49) (lb := #[.pointer (some ⟨w.heap.size + 1 + 1 + 1 + 1, 0, none⟩), .pointer (some ⟨w.heap.size + 1 + 1 + 1 + 2, 0, none⟩), .pointer (some ⟨w.heap.size + 1 + 1 + 1, 0, none⟩)]) rfl trivial (enters_of Try.func49 (by kernel_rfl) rfl)
    (range_stops hd HES.out HUP.out _ W0 hR) Kept.trans (fun W l o o' _ h ho _ => kept_b W l o o' h ho) (Below.refl _ _) (fun _ => rfl)
    (fun pre W => (∃ v, Boxed W (w.heap.size + 1 + 1) 31 v ∧ W.ownsRow w.heap.size 44 3 v pre.length (ecells pre) ∧ True) ∧ Below w.heap.size w W)
    (fun _ _ _ => False)
    (OwnFrom.and (Own.from (holdsRow_own w.heap.size (w.heap.size + 1 + 1) 31 44 3 (fun pre => pre.length) (fun pre => ecells pre) (fun _ _ => True)) _) (ownFrom_below (Nat.le_refl _) (by omega)))
    (fun _ _ _ _ _ hs _ _ => hs)
    ⟨⟨_, bL, ⟨by simp [ecells], .inl ⟨rfl, rfl⟩⟩, trivial⟩, hB0⟩
    (fun x a' W => ∃ Bx, Blk W Bx 24 x.1.cells ∧ a' = { tmps := #[.pointer (some ⟨tr, 0, none⟩), .agg #[.int .i64 at_, .int .i64 as_], .agg #[.int .i64 bt, .int .i64 bs], undef, .pointer (some ⟨w.heap.size, 0, none⟩), .pointer (some ⟨w.heap.size + 1, 0, none⟩), .slice none 0 0, .pointer (some ⟨w.heap.size + 1 + 1, 0, none⟩), .pointer (some ⟨Bx, 0, none⟩), .int .i64 x.2, .pointer (some ⟨tr, 0, none⟩), .agg #[.int .i64 at_, .int .i64 as_], .agg #[.int .i64 bt, .int .i64 bs], .func (.func 49) #[] #[.pointer (some ⟨w.heap.size + 1 + 1 + 1 + 1, 0, none⟩), .pointer (some ⟨w.heap.size + 1 + 1 + 1 + 2, 0, none⟩), .pointer (some ⟨w.heap.size + 1 + 1 + 1, 0, none⟩)], .agg x.1.cells, .int .i64 x.2, undef, undef, undef, undef, undef, undef, undef], defers := [] })
    (fun x a' _ X Y row hs hg hr => by
      obtain ⟨Bx, h2, h3⟩ := hs
      exact ⟨Bx, h2.grown hg (fun e => by obtain ⟨_, o, ho, hc⟩ := hr Bx e.symm; rw [show X.heap[Bx]? = _ from h2] at ho; cases ho; cases hc), h3⟩)
    ?assign ?body ?done ?stop
  case assign =>
    rintro l pre ⟨⟨xt, xs⟩, xv⟩ W K ⟨⟨v, hv, hrow, _⟩, hB⟩ hK
    simp only [encE, Ky.cells] at hK ⊢
    gi_wp2
    exact hK _ _ ((KeepsOthers.alloc _ _).from _) (Below.kept ((Below.refl _ W).alloc (Nat.le_refl _) _)) ⟨⟨v, hv.alloc _, hrow.alloc _, trivial⟩, hB.alloc hB.size _⟩ ⟨W.heap.size, Blk.new W _ _, rfl⟩
  case body =>
    rintro l pre ⟨⟨xt, xs⟩, xv⟩ a' W _ _ ⟨⟨v, hv, hrow, _⟩, hB⟩ ⟨Bx, hx, rfl⟩ hlt
    have cL := hv.cell
    have cX0 : W.cell? ⟨Bx, 0, none⟩ = some (.int .i64 xt) := hx.cell 0
    have cX1 : W.cell? ⟨Bx, 1, none⟩ = some (.int .i64 xs) := hx.cell 1
    have k3 : pre.length + 1 ≤ maxLen := by unfold maxLen; omega
    have k4 : (pre.length + 1) * 24 ≤ 140737488355328 := by omega
    have k5 : w.heap.size ≤ (W.alloc (.cells #[.int .i64 xt, .int .i64 xs, .int .i64 xv] 44)).heap.size := by have := hB.size; simp; omega
    have k2 : ∀ u ∈ [Value.int .i64 xt, .int .i64 xs, .int .i64 xv], u.oneCell' = true := by simp [Value.oneCell']
    simp only [Ky.cells]
    gi_wp2_with (gi_at_builtin; refine wpListIn_append_own _ rfl (.tmp 16) (.tmp 20) 31 rfl w.heap.size 44 i0 _ 3 24 Try.underlying31 hi0 hz0 hz1 hz2 rfl (by decide) _ pre.length (ecells pre) rfl (hrow.alloc _) ⟨W.heap.size, 0, none⟩ 1 1 [.int .i64 xt, .int .i64 xs, .int .i64 xv] rfl rfl (World.news_of_block (cs := #[.int .i64 xt, .int .i64 xs, .int .i64 xv]) (t := 44) (fr := (0, 0)) (heap_alloc_new W _)) k2 k3 k4 k5 ?_; intro v' w1 hown' hgrow _; obtain ⟨g', cap', rfl⟩ := ownsRow_succ hown'; obtain ⟨hv1, hv2, hr2, hk2, hb2⟩ := hv.appended (by decide) hrow hB.size (by omega) hown' hgrow; have hc1 := hv1.cell; have hf1 := hv1.frozen; have hkp := ((Below.kept ((Below.refl _ W).alloc (Nat.le_refl _) _)).trans (Kept.grown (hrow.alloc _) hgrow)).trans (Kept.setBox hv1 (.slice (some ⟨g', 0, none⟩) (pre.length + 1) cap')))
    exact ⟨hk2.from _, hkp, ⟨_, hv2, own_snoc hr2⟩, hB.trans hb2⟩
  case done =>
    rintro D ys W hD rfl ⟨⟨v, hv, hrow, _⟩, hB⟩ hK
    have cL := hv.cell
    gi_wp2
    refine ⟨by simp, .inl ⟨_, _, rfl, run_takeDeferred hK, ?_⟩⟩
    exact ⟨_, results_tmp rfl _ _ _, v, rfl, ownsRow_putObj hrow _ hK rfl, hB.trans (belowK_b (w := w) (Nat.le_refl _) W D _ _ (by omega) hK rfl rfl)⟩
  case stop =>
    rintro D c pre W _ _ h _
    exact h.elim
end Go.Proofs.Ytmmikolcipcldaa
