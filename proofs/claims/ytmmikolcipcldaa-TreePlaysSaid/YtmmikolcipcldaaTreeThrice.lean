/-
  What is proved here: what one range of a tree tells, three times, and left the first time (thrice; chapter 15). Conditions: each theorem's own.
-/
import Derived.Test.YtmmikolcipcldaaTreePlayed
namespace Go.Proofs.Ytmmikolcipcldaa
open Go.RowKit Go.Deep
attribute [local go_sem] Oper.semAt_some

abbrev tEs : TypeId := 31
theorem row_step {W0 W w1 : World} {B k m : Nat} {v v' : Value} {xs ys : List Value} {tmp : Obj} (hv : Boxed W B tEs v) (hrow : W.ownsRow W0.heap.size 44 3 v k xs) (hown' : w1.ownsRow W0.heap.size 44 3 v' m ys) (hgrow : (W.alloc tmp).grownBy w1 v.ownBlock) (hT : Touch W0 W [B]) :
    Boxed w1 B tEs v ∧ Boxed (w1.setCell ⟨B, 0, none⟩ v') B tEs v' ∧ (w1.setCell ⟨B, 0, none⟩ v').ownsRow W0.heap.size 44 3 v' m ys ∧ KeepsOthers W (w1.setCell ⟨B, 0, none⟩ v') ∧ Kept W (w1.setCell ⟨B, 0, none⟩ v') ∧ Touch W0 (w1.setCell ⟨B, 0, none⟩ v') [B] := by
  have hte : tEs ≠ 44 := by decide
  have hv1 : Boxed w1 B tEs v := (hv.alloc tmp).kept hgrow (hv.not_row hte hrow)
  refine ⟨hv1, hv1.set v', hown'.kept (grownBy_setCell' w1 B v') (.inr (hv1.not_row hte hown').symm), ?_, ?_, ?_⟩
  · refine ((KeepsOthers.alloc W tmp).trans (KeepsOthers.of_grownBy hgrow fun j o ej hj => ?_)).trans (KeepsOthers.setCell _ _ _)
    rcases (hrow.alloc tmp).2 with ⟨rfl, _⟩ | ⟨g, cap, cur, rfl, _, hgb, _⟩
    · simp [Value.ownBlock] at ej
    · obtain rfl : g = j := by simpa [Value.ownBlock] using ej
      rw [hgb] at hj; cases hj; rfl
  · exact ((Below.kept ((Below.refl _ W).alloc (Nat.le_refl _) _)).trans (Kept.grown (hrow.alloc _) hgrow)).trans (Kept.setBox hv1 v')
  · have hT1 : Touch W0 w1 [B] := ⟨hgrow.os.trans hT.os, hgrow.tape.trans hT.tape, hgrow.output.trans hT.output, by have := hT.size; have := hgrow.size; simp at this; omega, fun q hq hL => by
      have h1 : (W.alloc tmp).heap[q]? = W.heap[q]? := Below.heap_alloc W tmp q (Nat.lt_of_lt_of_le hq hT.size)
      refine (hgrow.block q (by have := hT.size; simp; omega) (fun e => ?_)).trans (h1.trans (hT.block q hq hL))
      have := (World.ownsRow.lt hrow q e.symm).1
      omega⟩
    exact hT1.trans (Touch.set _ ⟨B, 0, none⟩ _ _ (by simp))
theorem ownFrom_touch {β : Type} {W0 : World} {L : List Nat} : OwnFrom W0.heap.size (fun (_ : β) W => Touch W0 W L) :=
  fun _ _ _ _ hs hg hr => ⟨hg.os.trans hs.os, hg.tape.trans hs.tape, hg.output.trans hs.output, Nat.le_trans hs.size hg.size, fun k hk hL => (hg.block k (Nat.lt_of_lt_of_le hk hs.size) (fun e => by have := (hr k e.symm).1; omega)).trans (hs.block k hk hL)⟩

theorem Boxed.touch {W W' : World} {B : Nat} {t : TypeId} {v : Value} {L : List Nat} (h : Boxed W B t v) (k : Touch W W' L) (hB : B ∉ L) : Boxed W' B t v := (k.block B h.lt hB).trans h
theorem OwnE.touch {base : Nat} {W W' : World} {v : Value} {es : List En} {L : List Nat} (h : OwnE base W v es) (k : Touch W W' L) (hL : ∀ q ∈ L, some q ≠ v.ownBlock) : OwnE base W' v es := by
  obtain ⟨hl, h1 | ⟨g, cap, cur, rfl, hg, hb, h2⟩⟩ := h
  · exact ⟨hl, .inl h1⟩
  · exact ⟨hl, .inr ⟨g, cap, cur, rfl, hg, (k.block g (Blk.lt hb) (fun hm => hL g hm rfl)).trans hb, h2⟩⟩

theorem own_ne_obj {base : Nat} {W : World} {v : Value} {es : List En} {q : Nat} {o : Obj} (h : OwnE base W v es) (hq : W.heap[q]? = some o) (ho : o.isCells = false) : some q ≠ v.ownBlock := by
  obtain ⟨hl, ⟨rfl, _⟩ | ⟨g, cap, cur, rfl, hg, hb, h2⟩⟩ := h
  · simp [Value.ownBlock]
  · intro e
    obtain rfl : q = g := by simpa [Value.ownBlock] using e
    rw [hb] at hq
    cases hq
    cases ho
theorem Touch.putObj {W : World} {q : Nat} {o : Obj} {L : List Nat} (hq : q ∈ L) : Touch W (W.putObj q o) L :=
  have g := grownBy_putObj' W q o
  ⟨g.os, g.tape, g.output, g.size, fun k hk hL => g.block k hk (fun e => by cases e; exact hL hq)⟩
theorem deferred_on {W W' : World} {q : Nat} {L : List Nat} {ds : Option (List Deferred)} (h : W.heap[q]? = some (.deferred ds)) (k : Touch W W' L) (hL : q ∉ L) : W'.heap[q]? = some (.deferred ds) :=
  (k.block q (Array.getElem?_eq_some_iff.1 h).1 hL).trans h

set_option maxRecDepth 100000 in
set_option maxHeartbeats 1000000 in
theorem thrice_any {n0 tr d : Nat} {wb w : World} {es : List En} (h : Has n0 wb tr d es w) (hd : d ≤ 16) (hl : es.length ≤ 1000000) (a b : Ky) (n : Int) :
    Calls Try.prog 14 #[.pointer (some ⟨tr, 0, none⟩), .agg a.cells, .agg b.cells, .int .i64 n] w fun e w' => ∃ v1 v2 v3, e = .returned (.tuple #[v1, v2, v3]) ∧ EnsAt w' v1 ((ranged a b es).take n.toNat) ∧ EnsAt w' v2 (ranged a b es) ∧ EnsAt w' v3 (ranged a b es) ∧ Below w.heap.size w w' := by
  obtain ⟨M, hM⟩ := h.tree
  obtain ⟨root, hat, hroot⟩ := hM.at_
  have hes : Ents d M root es := by
    rcases hroot with h | ⟨p, H, FS, h, hT, _⟩
    · exact .inl h
    · exact .inr ⟨p, H, _, FS, h, hT⟩
  have HM := Lib.hid (fun (p : Nat) (P : Pg) (h : M p = some P) => hM.th.page h)
  have HT := Lib.hid hat
  have HES := Lib.hid hes
  have HUP := Lib.hid hM.up
  clear hat hroot hes hM h
  obtain ⟨at_, as_⟩ := a
  obtain ⟨bt, bs⟩ := b
  refine callsIn_wide.1 (callsIn_of_wp_marks (n := 10) Try.func14 rfl trivial ?_ rfl)
  simp only [Try.ntmps14, List.size_toArray, List.length_cons, List.length_nil, Nat.reduceAdd, Nat.reduceSub, Array.replicate_succ, Array.replicate_zero, List.push_toArray, List.append_toArray, List.nil_append, List.cons_append, Ky.cells]
  gi_wp2_with (refine ⟨trivial, ?_⟩; gi_at_call 35; refine (callsIn_wide.2 (range_any tr ⟨at_, as_⟩ ⟨bt, bs⟩ _)).mono ?_; rintro e w1 ⟨rfl, rfl⟩)
  rename_i K hKr
  obtain ⟨W0, hW0⟩ : ∃ wq : World, wq = (((((((((w.alloc (Obj.cells #[Value.int IntKind.i64 at_, Value.int IntKind.i64 as_] 24)).alloc (Obj.cells #[Value.int IntKind.i64 bt, Value.int IntKind.i64 bs] 24)).alloc (Obj.cells #[Value.int IntKind.i64 n] 3)).alloc (Obj.cells #[Value.slice none 0 0] 31)).alloc (Obj.cells #[Value.slice none 0 0] 31)).alloc (Obj.cells #[Value.slice none 0 0] 31)).alloc (Obj.cells #[Value.pointer (some ⟨tr, 0, none⟩)] 26)).alloc (Obj.cells (Ky.mk at_ as_).cells 24)).alloc (Obj.cells (Ky.mk bt bs).cells 24)) := ⟨_, rfl⟩
  rw [← hW0]
  have hsz : W0.heap.size = w.heap.size + 9 := by rw [hW0]; simp
  have hB0 : Below w.heap.size w W0 := by rw [hW0]; (repeat (first | (with_reducible assumption) | (with_reducible exact Below.refl _ _) | ((with_reducible refine Below.setCell ?_ ?_ _); rotate_left; · (first | omega | (simp; done) | (simp; omega) | (simp at *; omega))) | ((with_reducible refine Below.alloc ?_ ?_ _); rotate_left; · (first | omega | (simp; done) | (simp; omega) | (simp at *; omega))) | (with_reducible refine Below.drew ?_) | (with_reducible refine below_drewN ?_ _) | ((refine Below.trans ?_ (Below.mono (by with_reducible assumption) ?_)); rotate_left; · (first | omega | (simp; done) | (simp; omega) | (simp at *; omega)))))
  have hbn : Blk W0 (w.heap.size + 1 + 1) 3 #[.int .i64 n] := by rw [hW0]; repeat (first | (with_reducible refine Blk.at_end _ _ _ ?_; simp only [World.size_alloc]; done) | with_reducible apply Blk.alloc)
  have hb3 : Boxed W0 (w.heap.size + 1 + 1 + 1) tEs (.slice none 0 0) := show Blk _ _ _ _ from by rw [hW0]; repeat (first | (with_reducible refine Blk.at_end _ _ _ ?_; simp only [World.size_alloc]; done) | with_reducible apply Blk.alloc)
  have hb4 : Boxed W0 (w.heap.size + 1 + 1 + 1 + 1) tEs (.slice none 0 0) := show Blk _ _ _ _ from by rw [hW0]; repeat (first | (with_reducible refine Blk.at_end _ _ _ ?_; simp only [World.size_alloc]; done) | with_reducible apply Blk.alloc)
  have hb5 : Boxed W0 (w.heap.size + 1 + 1 + 1 + 1 + 1) tEs (.slice none 0 0) := show Blk _ _ _ _ from by rw [hW0]; repeat (first | (with_reducible refine Blk.at_end _ _ _ ?_; simp only [World.size_alloc]; done) | with_reducible apply Blk.alloc)
  have hcx : Blk W0 (w.heap.size + 1 + 1 + 1 + 1 + 1 + 1) 26 #[.pointer (some ⟨tr, 0, none⟩)] := by rw [hW0]; repeat (first | (with_reducible refine Blk.at_end _ _ _ ?_; simp only [World.size_alloc]; done) | with_reducible apply Blk.alloc)
  have hcf : Blk W0 (w.heap.size + 1 + 1 + 1 + 1 + 1 + 1 + 1) 24 (Ky.mk at_ as_).cells := by rw [hW0]; repeat (first | (with_reducible refine Blk.at_end _ _ _ ?_; simp only [World.size_alloc]; done) | with_reducible apply Blk.alloc)
  have hct : Blk W0 (w.heap.size + 1 + 1 + 1 + 1 + 1 + 1 + 2) 24 (Ky.mk bt bs).cells := by rw [hW0]; repeat (first | (with_reducible refine Blk.at_end _ _ _ ?_; simp only [World.size_alloc]; done) | with_reducible apply Blk.alloc)
  clear hW0
  have HSZ := Lib.hid hsz
  clear hsz
  have HRE := Lib.hid (show ∀ W, Below w.heap.size w W → Blk W (w.heap.size + 1 + 1 + 1 + 1 + 1 + 1) 26 #[.pointer (some ⟨tr, 0, none⟩)] → Blk W (w.heap.size + 1 + 1 + 1 + 1 + 1 + 1 + 1) 24 (Ky.mk at_ as_).cells → Blk W (w.heap.size + 1 + 1 + 1 + 1 + 1 + 1 + 2) 24 (Ky.mk bt bs).cells → RE M (w.heap.size + 1 + 1 + 1 + 1 + 1 + 1 + 1) (w.heap.size + 1 + 1 + 1 + 1 + 1 + 1 + 2) (w.heap.size + 1 + 1 + 1 + 1 + 1 + 1) tr d root es.length ⟨at_, as_⟩ ⟨bt, bs⟩ W from fun W hb h1 h2 h3 =>
    ⟨fun hp => (HM.out _ _ hp).on hb, h2, h3, h1, Blk.below HT.out hb (Blk.lt HT.out)⟩)
  have hN : (ranged ⟨at_, as_⟩ ⟨bt, bs⟩ es).length ≤ es.length := by
    unfold ranged till From
    exact Nat.le_trans (List.takeWhile_sublist _).length_le (List.length_filter_le _ _)
  obtain ⟨i0, hi0, hz0, hz1, hz2⟩ := info_parts infoEn
  refine wpIn_mono (Q := fun e a' W => (e = .normal ∨ e = .exit 0) ∧ ∃ D v, a' = { tmps := #[.pointer (some ⟨tr, 0, none⟩), .agg #[.int .i64 at_, .int .i64 as_], .agg #[.int .i64 bt, .int .i64 bs], .int .i64 n, undef, .pointer (some ⟨w.heap.size, 0, none⟩), .pointer (some ⟨w.heap.size + 1, 0, none⟩), .pointer (some ⟨w.heap.size + 1 + 1, 0, none⟩), .slice none 0 0, .slice none 0 0, .slice none 0 0, .pointer (some ⟨w.heap.size + 1 + 1 + 1, 0, none⟩), .pointer (some ⟨w.heap.size + 1 + 1 + 1 + 1, 0, none⟩), .pointer (some ⟨w.heap.size + 1 + 1 + 1 + 1 + 1, 0, none⟩), .func (.func 49) #[] #[.pointer (some ⟨w.heap.size + 1 + 1 + 1 + 1 + 1 + 1 + 1, 0, none⟩), .pointer (some ⟨w.heap.size + 1 + 1 + 1 + 1 + 1 + 1 + 2, 0, none⟩), .pointer (some ⟨w.heap.size + 1 + 1 + 1 + 1 + 1 + 1, 0, none⟩)], undef, undef, undef, undef, undef, undef, .pointer (some ⟨tr, 0, none⟩), .agg #[.int .i64 at_, .int .i64 as_], .agg #[.int .i64 bt, .int .i64 bs], .func (.func 49) #[] #[.pointer (some ⟨w.heap.size + 1 + 1 + 1 + 1 + 1 + 1 + 1, 0, none⟩), .pointer (some ⟨w.heap.size + 1 + 1 + 1 + 1 + 1 + 1 + 2, 0, none⟩), .pointer (some ⟨w.heap.size + 1 + 1 + 1 + 1 + 1 + 1, 0, none⟩)], .func (.func 49) #[] #[.pointer (some ⟨w.heap.size + 1 + 1 + 1 + 1 + 1 + 1 + 1, 0, none⟩), .pointer (some ⟨w.heap.size + 1 + 1 + 1 + 1 + 1 + 1 + 2, 0, none⟩), .pointer (some ⟨w.heap.size + 1 + 1 + 1 + 1 + 1 + 1, 0, none⟩)], undef, undef, undef, undef, undef, undef, undef, undef, undef, undef, undef, undef, undef, undef, undef, undef, undef, undef, undef, undef, undef, undef, undef, undef, undef, undef, undef, undef, undef, undef, undef, undef, undef], defers := [{ target := .collected D, args := #[] }] } ∧ W0.heap.size ≤ D ∧ W.heap[D]? = some (.deferred (some [])) ∧ Boxed W (w.heap.size + 1 + 1 + 1) tEs v ∧ OwnE W0.heap.size W v ((ranged ⟨at_, as_⟩ ⟨bt, bs⟩ es).take n.toNat) ∧ Touch W0 W [w.heap.size + 1 + 1 + 1]) ?loop ?rest
  case loop =>
    refine wpIn_rangeFunc_ownH rfl (by decide) (gf := 49) (lb := #[.pointer (some ⟨w.heap.size + 1 + 1 + 1 + 1 + 1 + 1 + 1, 0, none⟩), .pointer (some ⟨w.heap.size + 1 + 1 + 1 + 1 + 1 + 1 + 2, 0, none⟩), .pointer (some ⟨w.heap.size + 1 + 1 + 1 + 1 + 1 + 1, 0, none⟩)]) rfl trivial (enters_of Try.func49 (by kernel_rfl) rfl)
      (range_stops hd HES.out HUP.out _ W0 (HRE.out W0 hB0 hcx hcf hct)) Kept.trans (fun W l o o' _ h ho _ => kept_b W l o o' h ho) (Below.refl _ _) (fun _ => rfl)
      (fun pre W => (∃ v, Boxed W (w.heap.size + 1 + 1 + 1) tEs v ∧ W.ownsRow W0.heap.size 44 3 v pre.length (ecells pre) ∧ pre.length ≤ n.toNat) ∧ Touch W0 W [w.heap.size + 1 + 1 + 1])
      (fun c xs W => ((c = .exit 0 ∧ ∃ (pre : List En) (x : En), xs = pre ++ [x] ∧ pre.length = n.toNat) ∧ (∃ v, Boxed W (w.heap.size + 1 + 1 + 1) tEs v ∧ W.ownsRow W0.heap.size 44 3 v xs.dropLast.length (ecells xs.dropLast) ∧ True)) ∧ Touch W0 W [w.heap.size + 1 + 1 + 1])
      (OwnFrom.and (Own.from (holdsRow_own W0.heap.size (w.heap.size + 1 + 1 + 1) tEs 44 3 (fun pre => pre.length) (fun pre => ecells pre) (fun pre _ => pre.length ≤ n.toNat)) _) ownFrom_touch)
      (fun c => OwnFrom.and (OwnFrom.and (fun _ _ _ _ h _ _ => h) (Own.from (holdsRow_own W0.heap.size (w.heap.size + 1 + 1 + 1) tEs 44 3 (fun (xs : List En) => xs.dropLast.length) (fun xs => ecells xs.dropLast) (fun _ _ => True)) _)) ownFrom_touch)
      ⟨⟨_, hb3, ⟨by simp [ecells], .inl ⟨rfl, rfl⟩⟩, Nat.zero_le _⟩, Touch.refl _ _⟩
      (fun x a' W => ∃ Bx, Blk W Bx 24 x.1.cells ∧ a' = { tmps := #[.pointer (some ⟨tr, 0, none⟩), .agg #[.int .i64 at_, .int .i64 as_], .agg #[.int .i64 bt, .int .i64 bs], .int .i64 n, undef, .pointer (some ⟨w.heap.size, 0, none⟩), .pointer (some ⟨w.heap.size + 1, 0, none⟩), .pointer (some ⟨w.heap.size + 1 + 1, 0, none⟩), .slice none 0 0, .slice none 0 0, .slice none 0 0, .pointer (some ⟨w.heap.size + 1 + 1 + 1, 0, none⟩), .pointer (some ⟨w.heap.size + 1 + 1 + 1 + 1, 0, none⟩), .pointer (some ⟨w.heap.size + 1 + 1 + 1 + 1 + 1, 0, none⟩), .func (.func 49) #[] #[.pointer (some ⟨w.heap.size + 1 + 1 + 1 + 1 + 1 + 1 + 1, 0, none⟩), .pointer (some ⟨w.heap.size + 1 + 1 + 1 + 1 + 1 + 1 + 2, 0, none⟩), .pointer (some ⟨w.heap.size + 1 + 1 + 1 + 1 + 1 + 1, 0, none⟩)], .pointer (some ⟨Bx, 0, none⟩), .int .i64 x.2, undef, undef, undef, undef, .pointer (some ⟨tr, 0, none⟩), .agg #[.int .i64 at_, .int .i64 as_], .agg #[.int .i64 bt, .int .i64 bs], .func (.func 49) #[] #[.pointer (some ⟨w.heap.size + 1 + 1 + 1 + 1 + 1 + 1 + 1, 0, none⟩), .pointer (some ⟨w.heap.size + 1 + 1 + 1 + 1 + 1 + 1 + 2, 0, none⟩), .pointer (some ⟨w.heap.size + 1 + 1 + 1 + 1 + 1 + 1, 0, none⟩)], .func (.func 49) #[] #[.pointer (some ⟨w.heap.size + 1 + 1 + 1 + 1 + 1 + 1 + 1, 0, none⟩), .pointer (some ⟨w.heap.size + 1 + 1 + 1 + 1 + 1 + 1 + 2, 0, none⟩), .pointer (some ⟨w.heap.size + 1 + 1 + 1 + 1 + 1 + 1, 0, none⟩)], .agg x.1.cells, .int .i64 x.2, undef, undef, undef, undef, undef, undef, undef, undef, undef, undef, undef, undef, undef, undef, undef, undef, undef, undef, undef, undef, undef, undef, undef, undef, undef, undef, undef, undef, undef, undef, undef], defers := [] })
      (fun x a' _ X Y row hs hg hr => by
        obtain ⟨Bx, h2, h3⟩ := hs
        exact ⟨Bx, h2.grown hg (fun e => by obtain ⟨_, o, ho, hc⟩ := hr Bx e.symm; rw [show X.heap[Bx]? = _ from h2] at ho; cases ho; cases hc), h3⟩)
      ?assign ?body ?done ?stop
    case assign =>
      rintro l pre ⟨⟨xt, xs⟩, xv⟩ W K ⟨⟨v, hv, hrow, hn⟩, hB⟩ hK
      simp only [encE, Ky.cells] at hK ⊢
      gi_wp2
      exact hK _ _ ((KeepsOthers.alloc _ _).from _) (Below.kept ((Below.refl _ W).alloc (Nat.le_refl _) _)) ⟨⟨v, hv.alloc _, hrow.alloc _, hn⟩, hB.trans (Touch.of_below ((Below.refl _ _).alloc (Nat.le_refl _) _) _)⟩ ⟨W.heap.size, Blk.new W _ _, rfl⟩
    case body =>
      rintro l pre ⟨⟨xt, xs⟩, xv⟩ a' W _ _ ⟨⟨v, hv, hrow, hn⟩, hB⟩ ⟨Bx, hx, rfl⟩ hlt
      have cL := hv.cell
      have cX0 : W.cell? ⟨Bx, 0, none⟩ = some (.int .i64 xt) := hx.cell 0
      have cX1 : W.cell? ⟨Bx, 1, none⟩ = some (.int .i64 xs) := hx.cell 1
      have k3 : pre.length + 1 ≤ maxLen := by unfold maxLen; omega
      have k4 : (pre.length + 1) * 24 ≤ 140737488355328 := by omega
      have k5 : W0.heap.size ≤ (W.alloc (.cells #[.int .i64 xt, .int .i64 xs, .int .i64 xv] 44)).heap.size := by have := hB.size; simp; omega
      have k2 : ∀ u ∈ [Value.int .i64 xt, .int .i64 xs, .int .i64 xv], u.oneCell' = true := by simp [Value.oneCell']
      simp only [Ky.cells]
      have cN : W.cell? ⟨w.heap.size + 1 + 1, 0, none⟩ = some (.int .i64 n) := (hbn.touch hB (by simp only [List.mem_singleton]; omega)).cell 0
      obtain ⟨A9, c9, rfl, _⟩ := EnsAt.of_own hrow rfl
      by_cases hge : n ≤ (pre.length : Int)
      · gi_wp2
        refine ⟨KeepsFrom.refl _ _, ⟨?_, ?_⟩, hB⟩
        · exact ⟨rfl, pre, ⟨_, _, rfl⟩, by omega⟩
        · exact ⟨_, hv, by simpa using hrow⟩
      · have hge' : ¬ n ≤ (pre.length : Int) := hge
        gi_wp2_with (gi_at_builtin; refine wpListIn_append_own _ rfl (.tmp 32) (.tmp 36) 31 rfl W0.heap.size 44 i0 _ 3 24 Try.underlying31 hi0 hz0 hz1 hz2 rfl (by decide) _ pre.length (ecells pre) rfl (hrow.alloc _) ⟨W.heap.size, 0, none⟩ 1 1 [.int .i64 xt, .int .i64 xs, .int .i64 xv] rfl rfl (World.news_of_block (cs := #[.int .i64 xt, .int .i64 xs, .int .i64 xv]) (t := 44) (fr := (0, 0)) (heap_alloc_new W _)) k2 k3 k4 k5 ?_; intro v' w1 hown' hgrow _; obtain ⟨g', cap', rfl⟩ := ownsRow_succ hown'; obtain ⟨hv1, hv2, hr2, hk2, hkp, ht2⟩ := row_step hv hrow hown' hgrow hB; have hc1 := hv1.cell; have hf1 := hv1.frozen)
        exact ⟨hk2.from _, hkp, ⟨_, hv2, own_snoc hr2, by simp; omega⟩, ht2⟩
    case done =>
      rintro D ys W hD rfl ⟨⟨v, hv, hrow, hn⟩, hB⟩ hK
      exact ⟨.inl rfl, D, v, rfl, hD, hK, hv, by rw [List.take_of_length_le hn]; exact hrow, hB⟩
    case stop =>
      rintro D c zs W hD ⟨t, ht⟩ ⟨⟨⟨rfl, pre, x, rfl, hn⟩, v, hv, hrow, _⟩, hB⟩ hK
      rw [List.dropLast_concat] at hrow
      refine wpIn_exit ⟨.inr rfl, D, v, rfl, hD, hK, hv, ?_, hB⟩
      rw [show (ranged ⟨at_, as_⟩ ⟨bt, bs⟩ es).take n.toNat = pre by rw [← ht, ← hn, List.append_assoc, List.take_left]]
      exact hrow
  rintro e a' W ⟨he, D, v1, rfl, hD, hK, hv1, ho1, hT⟩
  have key : K { tmps := #[.pointer (some ⟨tr, 0, none⟩), .agg #[.int .i64 at_, .int .i64 as_], .agg #[.int .i64 bt, .int .i64 bs], .int .i64 n, undef, .pointer (some ⟨w.heap.size, 0, none⟩), .pointer (some ⟨w.heap.size + 1, 0, none⟩), .pointer (some ⟨w.heap.size + 1 + 1, 0, none⟩), .slice none 0 0, .slice none 0 0, .slice none 0 0, .pointer (some ⟨w.heap.size + 1 + 1 + 1, 0, none⟩), .pointer (some ⟨w.heap.size + 1 + 1 + 1 + 1, 0, none⟩), .pointer (some ⟨w.heap.size + 1 + 1 + 1 + 1 + 1, 0, none⟩), .func (.func 49) #[] #[.pointer (some ⟨w.heap.size + 1 + 1 + 1 + 1 + 1 + 1 + 1, 0, none⟩), .pointer (some ⟨w.heap.size + 1 + 1 + 1 + 1 + 1 + 1 + 2, 0, none⟩), .pointer (some ⟨w.heap.size + 1 + 1 + 1 + 1 + 1 + 1, 0, none⟩)], undef, undef, undef, undef, undef, undef, .pointer (some ⟨tr, 0, none⟩), .agg #[.int .i64 at_, .int .i64 as_], .agg #[.int .i64 bt, .int .i64 bs], .func (.func 49) #[] #[.pointer (some ⟨w.heap.size + 1 + 1 + 1 + 1 + 1 + 1 + 1, 0, none⟩), .pointer (some ⟨w.heap.size + 1 + 1 + 1 + 1 + 1 + 1 + 2, 0, none⟩), .pointer (some ⟨w.heap.size + 1 + 1 + 1 + 1 + 1 + 1, 0, none⟩)], .func (.func 49) #[] #[.pointer (some ⟨w.heap.size + 1 + 1 + 1 + 1 + 1 + 1 + 1, 0, none⟩), .pointer (some ⟨w.heap.size + 1 + 1 + 1 + 1 + 1 + 1 + 2, 0, none⟩), .pointer (some ⟨w.heap.size + 1 + 1 + 1 + 1 + 1 + 1, 0, none⟩)], undef, undef, undef, undef, undef, undef, undef, undef, undef, undef, undef, undef, undef, undef, undef, undef, undef, undef, undef, undef, undef, undef, undef, undef, undef, undef, undef, undef, undef, undef, undef, undef, undef], defers := [{ target := .collected D, args := #[] }] } W := by
    clear he
    refine hKr _ _ ?_
    clear hKr
    have hBW : Below w.heap.size w W := ⟨hT.os.trans hB0.os, hT.tape.trans hB0.tape, hT.output.trans hB0.output, Nat.le_trans hB0.size hT.size, fun k hk => (hT.block k (by have := HSZ.out; omega) (by simp only [List.mem_singleton]; omega)).trans (hB0.block k hk)⟩
    have kcx := hcx.touch hT (by simp only [List.mem_singleton]; omega)
    have kcf := hcf.touch hT (by simp only [List.mem_singleton]; omega)
    have kct := hct.touch hT (by simp only [List.mem_singleton]; omega)
    have kb4 := Boxed.touch hb4 hT (by simp only [List.mem_singleton]; omega)
    have kb5 := Boxed.touch hb5 hT (by simp only [List.mem_singleton]; omega)
    have hws : w.heap.size + 9 ≤ W.heap.size := by have := hT.size; have := HSZ.out; omega
    gi_wp2
    refine wpIn_rangeFunc_ownH rfl (by decide) (gf := 49) (lb := #[.pointer (some ⟨w.heap.size + 1 + 1 + 1 + 1 + 1 + 1 + 1, 0, none⟩), .pointer (some ⟨w.heap.size + 1 + 1 + 1 + 1 + 1 + 1 + 2, 0, none⟩), .pointer (some ⟨w.heap.size + 1 + 1 + 1 + 1 + 1 + 1, 0, none⟩)]) rfl trivial (enters_of Try.func49 (by kernel_rfl) rfl)
      (range_stops hd HES.out HUP.out _ W (HRE.out W hBW kcx kcf kct)) Kept.trans (fun W l o o' _ h ho _ => kept_b W l o o' h ho) (Below.refl _ _) (fun _ => rfl)
      (fun pre X => (∃ v, Boxed X (w.heap.size + 1 + 1 + 1 + 1) tEs v ∧ X.ownsRow W.heap.size 44 3 v pre.length (ecells pre) ∧ True) ∧ Touch W X [w.heap.size + 1 + 1 + 1 + 1])
      (fun _ _ _ => False)
      (OwnFrom.and (Own.from (holdsRow_own W.heap.size (w.heap.size + 1 + 1 + 1 + 1) tEs 44 3 (fun pre => pre.length) (fun pre => ecells pre) (fun _ _ => True)) _) ownFrom_touch)
      (fun _ _ _ _ _ hs _ _ => hs)
      ⟨⟨_, kb4, ⟨by simp [ecells], .inl ⟨rfl, rfl⟩⟩, trivial⟩, Touch.refl _ _⟩
      (fun x a' X => ∃ Bx, Blk X Bx 24 x.1.cells ∧ a' = { tmps := #[.pointer (some ⟨tr, 0, none⟩), .agg #[.int .i64 at_, .int .i64 as_], .agg #[.int .i64 bt, .int .i64 bs], .int .i64 n, undef, .pointer (some ⟨w.heap.size, 0, none⟩), .pointer (some ⟨w.heap.size + 1, 0, none⟩), .pointer (some ⟨w.heap.size + 1 + 1, 0, none⟩), .slice none 0 0, .slice none 0 0, .slice none 0 0, .pointer (some ⟨w.heap.size + 1 + 1 + 1, 0, none⟩), .pointer (some ⟨w.heap.size + 1 + 1 + 1 + 1, 0, none⟩), .pointer (some ⟨w.heap.size + 1 + 1 + 1 + 1 + 1, 0, none⟩), .func (.func 49) #[] #[.pointer (some ⟨w.heap.size + 1 + 1 + 1 + 1 + 1 + 1 + 1, 0, none⟩), .pointer (some ⟨w.heap.size + 1 + 1 + 1 + 1 + 1 + 1 + 2, 0, none⟩), .pointer (some ⟨w.heap.size + 1 + 1 + 1 + 1 + 1 + 1, 0, none⟩)], undef, undef, .pointer (some ⟨Bx, 0, none⟩), .int .i64 x.2, undef, undef, .pointer (some ⟨tr, 0, none⟩), .agg #[.int .i64 at_, .int .i64 as_], .agg #[.int .i64 bt, .int .i64 bs], .func (.func 49) #[] #[.pointer (some ⟨w.heap.size + 1 + 1 + 1 + 1 + 1 + 1 + 1, 0, none⟩), .pointer (some ⟨w.heap.size + 1 + 1 + 1 + 1 + 1 + 1 + 2, 0, none⟩), .pointer (some ⟨w.heap.size + 1 + 1 + 1 + 1 + 1 + 1, 0, none⟩)], .func (.func 49) #[] #[.pointer (some ⟨w.heap.size + 1 + 1 + 1 + 1 + 1 + 1 + 1, 0, none⟩), .pointer (some ⟨w.heap.size + 1 + 1 + 1 + 1 + 1 + 1 + 2, 0, none⟩), .pointer (some ⟨w.heap.size + 1 + 1 + 1 + 1 + 1 + 1, 0, none⟩)], undef, undef, undef, undef, undef, undef, undef, undef, undef, undef, undef, undef, .func (.func 49) #[] #[.pointer (some ⟨w.heap.size + 1 + 1 + 1 + 1 + 1 + 1 + 1, 0, none⟩), .pointer (some ⟨w.heap.size + 1 + 1 + 1 + 1 + 1 + 1 + 2, 0, none⟩), .pointer (some ⟨w.heap.size + 1 + 1 + 1 + 1 + 1 + 1, 0, none⟩)], .agg x.1.cells, .int .i64 x.2, undef, undef, undef, undef, undef, undef, undef, undef, undef, undef, undef, undef, undef, undef, undef, undef, undef, undef], defers := [] })
      (fun x a' _ X Y row hs hg hr => by
        obtain ⟨Bx, h2, h3⟩ := hs
        exact ⟨Bx, h2.grown hg (fun e => by obtain ⟨_, o, ho, hc⟩ := hr Bx e.symm; rw [show X.heap[Bx]? = _ from h2] at ho; cases ho; cases hc), h3⟩)
      ?assign ?body ?done ?stop
    case stop =>
      rintro D c zs W hD ht ⟨⟩
    case assign =>
      rintro l pre ⟨⟨xt, xs⟩, xv⟩ X2 K ⟨⟨v, hv, hrow, hn⟩, hB⟩ hK
      simp only [encE, Ky.cells] at hK ⊢
      gi_wp2
      exact hK _ _ ((KeepsOthers.alloc _ _).from _) (Below.kept ((Below.refl _ X2).alloc (Nat.le_refl _) _)) ⟨⟨v, hv.alloc _, hrow.alloc _, hn⟩, hB.trans (Touch.of_below ((Below.refl _ _).alloc (Nat.le_refl _) _) _)⟩ ⟨X2.heap.size, Blk.new X2 _ _, rfl⟩
    case body =>
      rintro l pre ⟨⟨xt, xs⟩, xv⟩ a' X2 _ _ ⟨⟨v, hv, hrow, _⟩, hB⟩ ⟨Bx, hx, rfl⟩ hlt
      have cL := hv.cell
      have cX0 : X2.cell? ⟨Bx, 0, none⟩ = some (.int .i64 xt) := hx.cell 0
      have cX1 : X2.cell? ⟨Bx, 1, none⟩ = some (.int .i64 xs) := hx.cell 1
      have k3 : pre.length + 1 ≤ maxLen := by unfold maxLen; omega
      have k4 : (pre.length + 1) * 24 ≤ 140737488355328 := by omega
      have k5 : W.heap.size ≤ (X2.alloc (.cells #[.int .i64 xt, .int .i64 xs, .int .i64 xv] 44)).heap.size := by have := hB.size; simp; omega
      have k2 : ∀ u ∈ [Value.int .i64 xt, .int .i64 xs, .int .i64 xv], u.oneCell' = true := by simp [Value.oneCell']
      simp only [Ky.cells]
      gi_wp2_with (gi_at_builtin; refine wpListIn_append_own _ rfl (.tmp 41) (.tmp 45) 31 rfl W.heap.size 44 i0 _ 3 24 Try.underlying31 hi0 hz0 hz1 hz2 rfl (by decide) _ pre.length (ecells pre) rfl (hrow.alloc _) ⟨X2.heap.size, 0, none⟩ 1 1 [.int .i64 xt, .int .i64 xs, .int .i64 xv] rfl rfl (World.news_of_block (cs := #[.int .i64 xt, .int .i64 xs, .int .i64 xv]) (t := 44) (fr := (0, 0)) (heap_alloc_new X2 _)) k2 k3 k4 k5 ?_; intro v' w1 hown' hgrow _; obtain ⟨g', cap', rfl⟩ := ownsRow_succ hown'; obtain ⟨hv1, hv2, hr2, hk2, hkp, ht2⟩ := row_step hv hrow hown' hgrow hB; have hc1 := hv1.cell; have hf1 := hv1.frozen)
      exact ⟨hk2.from _, hkp, ⟨_, hv2, own_snoc hr2⟩, ht2⟩
    case done =>
      rintro D2 ys W2 hD2 rfl ⟨⟨v2, hv2, ho2, _⟩, hT2⟩ hK2
      have hBW2 : Below w.heap.size w W2 := ⟨hT2.os.trans hBW.os, hT2.tape.trans hBW.tape, hT2.output.trans hBW.output, Nat.le_trans hBW.size hT2.size, fun k hk => (hT2.block k (by omega) (by simp only [List.mem_singleton]; omega)).trans (hBW.block k hk)⟩
      have mcx := kcx.touch hT2 (by simp only [List.mem_singleton]; omega)
      have mcf := kcf.touch hT2 (by simp only [List.mem_singleton]; omega)
      have mct := kct.touch hT2 (by simp only [List.mem_singleton]; omega)
      have mb5 := Boxed.touch kb5 hT2 (by simp only [List.mem_singleton]; omega)
      have hws2 : w.heap.size + 9 ≤ W2.heap.size := by have := hT2.size; omega
      gi_wp2
      refine wpIn_rangeFunc_ownH rfl (by decide) (gf := 49) (lb := #[.pointer (some ⟨w.heap.size + 1 + 1 + 1 + 1 + 1 + 1 + 1, 0, none⟩), .pointer (some ⟨w.heap.size + 1 + 1 + 1 + 1 + 1 + 1 + 2, 0, none⟩), .pointer (some ⟨w.heap.size + 1 + 1 + 1 + 1 + 1 + 1, 0, none⟩)]) rfl trivial (enters_of Try.func49 (by kernel_rfl) rfl)
        (range_stops hd HES.out HUP.out _ W2 (HRE.out W2 hBW2 mcx mcf mct)) Kept.trans (fun W l o o' _ h ho _ => kept_b W l o o' h ho) (Below.refl _ _) (fun _ => rfl)
        (fun pre X => (∃ v, Boxed X (w.heap.size + 1 + 1 + 1 + 1 + 1) tEs v ∧ X.ownsRow W2.heap.size 44 3 v pre.length (ecells pre) ∧ True) ∧ Touch W2 X [w.heap.size + 1 + 1 + 1 + 1 + 1])
        (fun _ _ _ => False)
        (OwnFrom.and (Own.from (holdsRow_own W2.heap.size (w.heap.size + 1 + 1 + 1 + 1 + 1) tEs 44 3 (fun pre => pre.length) (fun pre => ecells pre) (fun _ _ => True)) _) ownFrom_touch)
        (fun _ _ _ _ _ hs _ _ => hs)
        ⟨⟨_, mb5, ⟨by simp [ecells], .inl ⟨rfl, rfl⟩⟩, trivial⟩, Touch.refl _ _⟩
        (fun x a' X => ∃ Bx, Blk X Bx 24 x.1.cells ∧ a' = { tmps := #[.pointer (some ⟨tr, 0, none⟩), .agg #[.int .i64 at_, .int .i64 as_], .agg #[.int .i64 bt, .int .i64 bs], .int .i64 n, undef, .pointer (some ⟨w.heap.size, 0, none⟩), .pointer (some ⟨w.heap.size + 1, 0, none⟩), .pointer (some ⟨w.heap.size + 1 + 1, 0, none⟩), .slice none 0 0, .slice none 0 0, .slice none 0 0, .pointer (some ⟨w.heap.size + 1 + 1 + 1, 0, none⟩), .pointer (some ⟨w.heap.size + 1 + 1 + 1 + 1, 0, none⟩), .pointer (some ⟨w.heap.size + 1 + 1 + 1 + 1 + 1, 0, none⟩), .func (.func 49) #[] #[.pointer (some ⟨w.heap.size + 1 + 1 + 1 + 1 + 1 + 1 + 1, 0, none⟩), .pointer (some ⟨w.heap.size + 1 + 1 + 1 + 1 + 1 + 1 + 2, 0, none⟩), .pointer (some ⟨w.heap.size + 1 + 1 + 1 + 1 + 1 + 1, 0, none⟩)], undef, undef, undef, undef, .pointer (some ⟨Bx, 0, none⟩), .int .i64 x.2, .pointer (some ⟨tr, 0, none⟩), .agg #[.int .i64 at_, .int .i64 as_], .agg #[.int .i64 bt, .int .i64 bs], .func (.func 49) #[] #[.pointer (some ⟨w.heap.size + 1 + 1 + 1 + 1 + 1 + 1 + 1, 0, none⟩), .pointer (some ⟨w.heap.size + 1 + 1 + 1 + 1 + 1 + 1 + 2, 0, none⟩), .pointer (some ⟨w.heap.size + 1 + 1 + 1 + 1 + 1 + 1, 0, none⟩)], .func (.func 49) #[] #[.pointer (some ⟨w.heap.size + 1 + 1 + 1 + 1 + 1 + 1 + 1, 0, none⟩), .pointer (some ⟨w.heap.size + 1 + 1 + 1 + 1 + 1 + 1 + 2, 0, none⟩), .pointer (some ⟨w.heap.size + 1 + 1 + 1 + 1 + 1 + 1, 0, none⟩)], undef, undef, undef, undef, undef, undef, undef, undef, undef, undef, undef, undef, .func (.func 49) #[] #[.pointer (some ⟨w.heap.size + 1 + 1 + 1 + 1 + 1 + 1 + 1, 0, none⟩), .pointer (some ⟨w.heap.size + 1 + 1 + 1 + 1 + 1 + 1 + 2, 0, none⟩), .pointer (some ⟨w.heap.size + 1 + 1 + 1 + 1 + 1 + 1, 0, none⟩)], undef, undef, undef, undef, undef, undef, undef, undef, .func (.func 49) #[] #[.pointer (some ⟨w.heap.size + 1 + 1 + 1 + 1 + 1 + 1 + 1, 0, none⟩), .pointer (some ⟨w.heap.size + 1 + 1 + 1 + 1 + 1 + 1 + 2, 0, none⟩), .pointer (some ⟨w.heap.size + 1 + 1 + 1 + 1 + 1 + 1, 0, none⟩)], .agg x.1.cells, .int .i64 x.2, undef, undef, undef, undef, undef, undef, undef, undef, undef], defers := [] })
        (fun x a' _ X Y row hs hg hr => by
          obtain ⟨Bx, h2, h3⟩ := hs
          exact ⟨Bx, h2.grown hg (fun e => by obtain ⟨_, o, ho, hc⟩ := hr Bx e.symm; rw [show X.heap[Bx]? = _ from h2] at ho; cases ho; cases hc), h3⟩)
        ?assign ?body ?done ?stop
      case stop =>
        rintro D c zs W hD ht ⟨⟩
      case assign =>
        rintro l pre ⟨⟨xt, xs⟩, xv⟩ X3 K ⟨⟨v, hv, hrow, hn⟩, hB⟩ hK
        simp only [encE, Ky.cells] at hK ⊢
        gi_wp2
        exact hK _ _ ((KeepsOthers.alloc _ _).from _) (Below.kept ((Below.refl _ X3).alloc (Nat.le_refl _) _)) ⟨⟨v, hv.alloc _, hrow.alloc _, hn⟩, hB.trans (Touch.of_below ((Below.refl _ _).alloc (Nat.le_refl _) _) _)⟩ ⟨X3.heap.size, Blk.new X3 _ _, rfl⟩
      case body =>
        rintro l pre ⟨⟨xt, xs⟩, xv⟩ a' X3 _ _ ⟨⟨v, hv, hrow, _⟩, hB⟩ ⟨Bx, hx, rfl⟩ hlt
        have cL := hv.cell
        have cX0 : X3.cell? ⟨Bx, 0, none⟩ = some (.int .i64 xt) := hx.cell 0
        have cX1 : X3.cell? ⟨Bx, 1, none⟩ = some (.int .i64 xs) := hx.cell 1
        have k3 : pre.length + 1 ≤ maxLen := by unfold maxLen; omega
        have k4 : (pre.length + 1) * 24 ≤ 140737488355328 := by omega
        have k5 : W2.heap.size ≤ (X3.alloc (.cells #[.int .i64 xt, .int .i64 xs, .int .i64 xv] 44)).heap.size := by have := hB.size; simp; omega
        have k2 : ∀ u ∈ [Value.int .i64 xt, .int .i64 xs, .int .i64 xv], u.oneCell' = true := by simp [Value.oneCell']
        simp only [Ky.cells]
        gi_wp2_with (gi_at_builtin; refine wpListIn_append_own _ rfl (.tmp 50) (.tmp 54) 31 rfl W2.heap.size 44 i0 _ 3 24 Try.underlying31 hi0 hz0 hz1 hz2 rfl (by decide) _ pre.length (ecells pre) rfl (hrow.alloc _) ⟨X3.heap.size, 0, none⟩ 1 1 [.int .i64 xt, .int .i64 xs, .int .i64 xv] rfl rfl (World.news_of_block (cs := #[.int .i64 xt, .int .i64 xs, .int .i64 xv]) (t := 44) (fr := (0, 0)) (heap_alloc_new X3 _)) k2 k3 k4 k5 ?_; intro v' w1 hown' hgrow _; obtain ⟨g', cap', rfl⟩ := ownsRow_succ hown'; obtain ⟨hv1, hv2, hr2, hk2, hkp, ht2⟩ := row_step hv hrow hown' hgrow hB; have hc1 := hv1.cell; have hf1 := hv1.frozen)
        exact ⟨hk2.from _, hkp, ⟨_, hv2, own_snoc hr2⟩, ht2⟩
      case done =>
        rintro D3 ys W3 hD3 rfl ⟨⟨v3, hv3, ho3, _⟩, hT3⟩ hK3
        have hte : tEs ≠ 44 := by decide
        have p1 := Boxed.touch (Boxed.touch hv1 hT2 (by simp only [List.mem_singleton]; omega)) hT3 (by simp only [List.mem_singleton]; omega)
        have p2 := Boxed.touch hv2 hT3 (by simp only [List.mem_singleton]; omega)
        have q1 := OwnE.touch (OwnE.touch ho1 hT2 (fun q hq => by rw [List.mem_singleton.1 hq]; exact kb4.not_row hte ho1)) hT3 (fun q hq => by rw [List.mem_singleton.1 hq]; exact mb5.not_row hte (OwnE.touch ho1 hT2 (fun q hq => by rw [List.mem_singleton.1 hq]; exact kb4.not_row hte ho1)))
        have q2 := OwnE.touch (es := ranged ⟨at_, as_⟩ ⟨bt, bs⟩ es) ho2 hT3 (fun q hq => by rw [List.mem_singleton.1 hq]; exact mb5.not_row hte ho2)
        have hBW3 : Below w.heap.size w W3 := ⟨hT3.os.trans hBW2.os, hT3.tape.trans hBW2.tape, hT3.output.trans hBW2.output, Nat.le_trans hBW2.size hT3.size, fun k hk => (hT3.block k (by omega) (by simp only [List.mem_singleton]; omega)).trans (hBW2.block k hk)⟩
        have c3 := p1.cell
        have c4 := p2.cell
        have c5 := hv3.cell
        gi_wp2
        refine wpIn_wide.2 ?_
        go_quiet (fail)
        go_wp2_with fail
        gi_wp2
        have hd2 : W3.heap[D2]? = some (.deferred (some [])) := deferred_on hK2 hT3 (fun hm => by
          rw [List.mem_singleton] at hm
          rw [hm, show W2.heap[_]? = _ from mb5] at hK2
          cases hK2)
        have hd1 : W3.heap[D]? = some (.deferred (some [])) := deferred_on (deferred_on hK hT2 (fun hm => by
          rw [List.mem_singleton] at hm
          rw [hm, show W.heap[_]? = _ from kb4] at hK
          cases hK)) hT3 (fun hm => by
          rw [List.mem_singleton] at hm
          rw [hm, show W.heap[_]? = _ from kb5] at hK
          cases hK)
        have l1 : D < W.heap.size := (Array.getElem?_eq_some_iff.1 hK).1
        have l2 : D2 < W2.heap.size := (Array.getElem?_eq_some_iff.1 hK2).1
        have l3 := hT2.size
        have hn : ∀ k, k < w.heap.size → k ∉ [D3, D2, D] := fun k hk hm => by
          simp only [List.mem_cons, List.not_mem_nil, or_false] at hm
          have := HSZ.out
          rcases hm with rfl | rfl | rfl <;> omega
        have t0 : Touch W3 (W3.drewN nq) [D3, D2, D] := Touch.of_below (below_drewN (Below.refl _ _) nq) _
        have t1 := t0.trans (Touch.putObj (W := W3.drewN nq) (q := D3) (o := .deferred none) (L := [D3, D2, D]) (by simp))
        have t2 := t1.trans (Touch.putObj (q := D2) (o := .deferred none) (L := [D3, D2, D]) (by simp))
        have t3 := t2.trans (Touch.putObj (q := D) (o := .deferred none) (L := [D3, D2, D]) (by simp))
        have e3 : (W3.drewN nq).heap[D3]? = some (.deferred (some [])) := hK3
        have e2 : ((W3.drewN nq).putObj D3 (.deferred none)).heap[D2]? = some (.deferred (some [])) := deferred_on (W := W3.drewN nq) hd2 (Touch.putObj (L := [D3]) (by simp)) (by simp only [List.mem_singleton]; omega)
        have e1 : (((W3.drewN nq).putObj D3 (.deferred none)).putObj D2 (.deferred none)).heap[D]? = some (.deferred (some [])) := deferred_on (deferred_on (W := W3.drewN nq) hd1 (Touch.putObj (L := [D3]) (by simp)) (by simp only [List.mem_singleton]; omega)) (Touch.putObj (L := [D2]) (by simp)) (by simp only [List.mem_singleton]; omega)
        have ow : ∀ {base : Nat} {v : Value} {zs : List En}, OwnE base W3 v zs → EnsAt ((((W3.drewN nq).putObj D3 (.deferred none)).putObj D2 (.deferred none)).putObj D (.deferred none)) v zs := fun {base v zs} h => by
          refine OwnE.ens (OwnE.touch h t3 (fun q hq => ?_))
          simp only [List.mem_cons, List.not_mem_nil, or_false] at hq
          rcases hq with rfl | rfl | rfl
          · exact own_ne_obj h hK3 rfl
          · exact own_ne_obj h hd2 rfl
          · exact own_ne_obj h hd1 rfl
        refine ⟨by simp, .inl ⟨_, _, rfl, run_takeDeferred e3, by simp, .inl ⟨_, _, rfl, run_takeDeferred e2, by simp, .inl ⟨_, _, rfl, run_takeDeferred e1, ?_⟩⟩⟩⟩
        refine ⟨.tuple #[v1, v2, v3], ?_, v1, v2, v3, rfl, ow q1, ow q2, ow ho3, ?_⟩
        · simp [results, Try.results14, go_sem]
        · exact ⟨t3.os.trans hBW3.os, t3.tape.trans hBW3.tape, t3.output.trans hBW3.output, Nat.le_trans hBW3.size t3.size, fun k hk => (t3.block k (by have := hBW3.size; omega) (hn k hk)).trans (hBW3.block k hk)⟩
  rcases he with rfl | rfl
  · exact key
  · exact key
end Go.Proofs.Ytmmikolcipcldaa
