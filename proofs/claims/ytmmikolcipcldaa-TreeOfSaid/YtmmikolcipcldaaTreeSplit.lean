/-
  What is proved here: a full page is parted in two (the tree's split). Conditions: each theorem's own.
-/
import Derived.Test.YtmmikolcipcldaaTreeStage
import Derived.Test.YtmmikolcipcldaaTreeIns
import Derived.Test.YtmmikolcipcldaaFHeld
import Derived.TacticsInMore
namespace Go.Proofs.Ytmmikolcipcldaa
open Go.RowKit Go.Deep

def appK (xs : Array Value) : Sem Value := Builtin.append_ #[39, 39] 39 xs
theorem appK_eq (xs : Array Value) : Builtin.append_ #[39, 39] 39 xs = appK xs := rfl
def appI (xs : Array Value) : Sem Value := Builtin.append_ #[58, 58] 58 xs
theorem appI_eq (xs : Array Value) : Builtin.append_ #[58, 58] 58 xs = appI xs := rfl
attribute [local go_sem ↓ high] appK_eq appI_eq

theorem in_only {n : Nat} {P : Program} {ops : Array Oper} {Q : Exit → Act → World → Prop} {i : Nat} {o : Oper} {k : Nat} {d : Array Bool} {a : Act} {w : World} (hr : Region.ready .any ops d = [i]) (ho : ops[i]? = some o) (hw : Region.wanted o (yielded ops a.tmps) = true)
    (h : ∀ K' : Act → World → Prop, Shut (∀ a w, wpAnyIn Fence.wide n P .any ops Q k (d.setIfInBounds i true) a w → K' a w) → Oper.wpIn Fence.wide n P o a w K' Q) : wpAnyIn Fence.wide n P .any ops Q (k + 1) d a w := by
  refine wpAnyIn_ready hr (by simp) (AllReadyIn.cons ho (fun K hK => ?_) AllReadyIn.nil)
  rw [if_pos hw]
  exact h K hK
/-- what yields its value in every world may be taken first, wherever the exit stands. -/
theorem anyS_firstW {n : Nat} {P : Program} {ops : Array Oper} {Q : Exit → Act → World → Prop} {S : World → Prop} {i e : Nat} {oi : Oper} {v : Value} (hi : ops[i]? = some oi) (hsel : ∀ (j : Nat) (o : Oper) cs b, ops[j]? = some o → o.op ≠ .select cs b)
    (hQ : ∀ c a w, Q (.panic c) (a.put oi.dst v) w → Q (.panic c) a w) : ∀ (k : Nat) (d : Array Bool) (a : Act) (w : World),
      (∀ j oj, ops[j]? = some oj → j ≠ i → d.getD j true = false → (∀ e ∈ oj.after, Region.binds .any e = true → e.on ≠ i) → oi.apart ops oj = true) →
      i ∈ Region.ready .any ops d → YieldsFenced P ops oi v a → S w → AnyS n P ops Q S e k (d.setIfInBounds i true) (a.put oi.dst v) w → i ≠ e → AnyS n P ops Q S e (k + 1) d a w
  | 0, d, a, w, _, hr, hy, hS, H, hne => by
    refine ⟨fun h => (by rw [h] at hr; cases hr), fun j hj => ?_⟩
    by_cases e' : j = i
    · subst e'; exact YieldsFenced.wpOpIn rfl hi hy ⟨fun _ => ⟨hS, H⟩, fun h => absurd h hne⟩
    · have := ready_mono hj e'
      rw [H.1] at this
      cases this
  | k + 1, d, a, w, hfree, hr, hy, hS, H, hne => by
    refine ⟨fun h => (by rw [h] at hr; cases hr), fun j hj => ?_⟩
    by_cases e' : j = i
    · subst e'; exact YieldsFenced.wpOpIn rfl hi hy ⟨fun _ => ⟨hS, H⟩, fun h => absurd h hne⟩
    · have hiu : d.getD i true = false := (mem_ready.1 hr).1
      obtain ⟨hun, oj, hoj, hall⟩ := mem_ready.1 hj
      have hno : ∀ e ∈ oj.after, Region.binds .any e = true → e.on ≠ i := fun e he hb heq => by
        have h1 := hall e he hb
        rw [heq] at h1
        rcases Nat.lt_or_ge i d.size with h' | h'
        · simp [h'] at hiu h1; rw [hiu] at h1; cases h1
        · simp [Array.getElem?_eq_none h'] at h1
      have hfree' : ∀ m om, ops[m]? = some om → m ≠ i → (d.setIfInBounds j true).getD m true = false → (∀ e ∈ om.after, Region.binds .any e = true → e.on ≠ i) → oi.apart ops om = true := fun m om hm hmi hmu hmn => by
        refine hfree m om hm hmi ?_ hmn
        by_cases ej : j = m
        · subst ej; exact hun
        · rw [getD_set_ne true ej] at hmu; exact hmu
      have hst := wpOpIn_put rfl hoj (hfree j oj hoj e' hun hno) (fun cs b => hsel i oi cs b hi) (fun cs b => hsel j oj cs b hoj) hQ hy (H.2 j (ready_mono hj e'))
      refine wpOpIn_mono (fun a' w' hh => ⟨fun hje => ?_, fun hje => wpAnyIn_first rfl hi hsel hQ k (d.setIfInBounds j true) a' w' hfree' (ready_mono hr (Ne.symm e')) hh.1 ?_⟩) hst
      · exact ⟨(hh.2.1 hje).1, anyS_firstW hi hsel hQ k (d.setIfInBounds j true) a' w' hfree' (ready_mono hr (Ne.symm e')) hh.1 (hh.2.1 hje).1 (by rw [Array.setIfInBounds_comm _ _ e']; exact (hh.2.1 hje).2) hne⟩
      · rw [Array.setIfInBounds_comm _ _ e']
        exact hh.2.2 hje
theorem anyS_takeW {n : Nat} {P : Program} {ops : Array Oper} {Q : Exit → Act → World → Prop} {S : World → Prop} {i e : Nat} {oi : Oper} {v : Value} {k : Nat} {d : Array Bool} {a : Act} {w : World} (hi : ops[i]? = some oi)
    (hs : Region.noSelect ops = true) (hf : Region.free .any ops d i = true) (hr : (Region.ready .any ops d).contains i = true) (hne : i ≠ e)
    (hQ : ∀ c a w, Q (.panic c) (a.put oi.dst v) w → Q (.panic c) a w) (hy : YieldsFenced P ops oi v a) (hS : S w)
    (h : AnyS n P ops Q S e k (d.setIfInBounds i true) (a.put oi.dst v) w) : AnyS n P ops Q S e (k + 1) d a w :=
  anyS_firstW hi (Region.noSelect_spec hs) hQ k d a w (Region.free_spec hi hf) (by simpa using hr) hy hS h hne
theorem key_free {w : World} {p b : Nat} {P : Pg} (h : PageAt w p P) (hb : w.heap.size ≤ b) : b ∉ p :: P.blocks := fun hm => by
  rw [List.mem_cons, Pg.mem_blocks] at hm
  rcases hm with rfl | ⟨hc, rfl⟩ | ⟨hc, rfl⟩ | ⟨hc, rfl⟩
  · have := h.blk.lt; omega
  · have := h.keys.lt hc; omega
  · have := h.vals.lt hc; omega
  · have := h.kids.lt hc; omega
theorem rows_apart {w : World} {g g' : Nat} {t t' : TypeId} {size size' n n' c c' : Nat} {xs xs' : List Value} (h : RowAt w g t size n c xs) (h' : RowAt w g' t' size' n' c' xs') (ht : t ≠ t') (hc : 0 < c) (hc' : 0 < c') : g ≠ g' := fun e => by
  obtain ⟨a, ha⟩ := h.obj hc
  obtain ⟨b, hb⟩ := h'.obj hc'
  rw [e] at ha
  exact ht (blk_type ha hb)
theorem RowAt.grown_far {w w' : World} {g g' : Nat} {t t' : TypeId} {size size' n n' c c' : Nat} {xs xs' : List Value} (h : RowAt w g t size n c xs) (h' : RowAt w g' t' size' n' c' xs') (ht : t ≠ t') (k : w.grownBy w' (rowOf? g' c')) : RowAt w' g t size n c xs :=
  h.touch (Touch.of_grown k (if 0 < c' then [g'] else []) (fun h => by rw [if_pos h]; simp)) (fun hc hm => by
    by_cases hc' : 0 < c'
    · rw [if_pos hc', List.mem_singleton] at hm
      exact rows_apart h h' ht hc hc' hm
    · rw [if_neg hc'] at hm
      cases hm)
/-- a page, as three stores leave it. -/
theorem page_three {w : World} {p gk gv gc ck cv cc : Nat} {a b c : Value} {ks : List Ky} {vs : List Int} {kids : List Nat} (hb : Blk w p 82 #[a, b, c])
    (hk : RowAt w gk 24 2 ks.length ck (kcells ks)) (hv : RowAt w gv 3 1 vs.length cv (vcells vs)) (hc : RowAt w gc 69 1 kids.length cc (pcells kids)) (h1 : 0 < ck) (h2 : 0 < cv) (h3 : 0 < cc) :
    PageAt (((w.setCell ⟨p, 0, none⟩ (.slice (some ⟨gk, 0, none⟩) ks.length ck)).setCell ⟨p, 1, none⟩ (.slice (some ⟨gv, 0, none⟩) vs.length cv)).setCell ⟨p, 2, none⟩ (.slice (some ⟨gc, 0, none⟩) kids.length cc)) p ⟨ks, vs, kids, gk, gv, gc, ck, cv, cc⟩ := by
  have hT : Touch w (((w.setCell ⟨p, 0, none⟩ (.slice (some ⟨gk, 0, none⟩) ks.length ck)).setCell ⟨p, 1, none⟩ (.slice (some ⟨gv, 0, none⟩) vs.length cv)).setCell ⟨p, 2, none⟩ (.slice (some ⟨gc, 0, none⟩) kids.length cc)) [p] :=
    ((Touch.set _ ⟨p, 0, none⟩ _ _ (by simp)).trans (Touch.set _ ⟨p, 1, none⟩ _ _ (by simp))).trans (Touch.set _ ⟨p, 2, none⟩ _ _ (by simp))
  refine ⟨?_, hk.touch hT (row_far hb hk (by decide)), hv.touch hT (row_far hb hv (by decide)), hc.touch hT (row_far hb hc (by decide))⟩
  simp only [sl_pos _ _ _ h1, sl_pos _ _ _ h2, sl_pos _ _ _ h3]
  exact ((hb.set_ 0 _).set_ 1 _).set_ 2 _

set_option maxRecDepth 100000 in
set_option maxHeartbeats 4000000 in
theorem split_any {B : Nat} {w : World} {M : Nat → Option Pg} {p i lp d : Nat} {P L : Pg} (hM : TH B w M) (hB : B ≤ w.heap.size) (hp : M p = some P) (hl : M lp = some L) (hne : lp ≠ p) (hi : i ≤ P.ks.length)
    (hk : P.kids.length = P.ks.length + 1) (hki : P.kids.getD i 0 = lp) (hpv : P.vs.length = P.ks.length) (hpn : P.ks.length ≤ 2 * d - 2) (hln : L.ks.length = 2 * d - 1) (hlv : L.vs.length = L.ks.length) (hlk : L.kids = [] ∨ L.kids.length = 2 * d) (hd2 : 2 ≤ d) (hd : d ≤ 16) :
    Calls Try.prog 46 #[.pointer (some ⟨p, 0, none⟩), .int .i64 (i : Nat), .int .i64 (d : Nat)] w fun e w' => e = .returned (.tuple #[]) ∧ ∃ rp P' L' R', M rp = none ∧ rp ≠ p ∧ rp ≠ lp ∧ St B w M p P' lp L' rp R' w' ∧ (P'.ks = insAt P.ks i (L.ks.getD (d - 1) k0) ∧ P'.vs = insAt P.vs i (L.vs.getD (d - 1) 0) ∧ P'.kids = insAt P.kids (i + 1) rp)
      ∧ (L'.ks = L.ks.take (d - 1) ∧ L'.vs = L.vs.take (d - 1) ∧ L'.kids = L.kids.take d) ∧ (R'.ks = L.ks.drop d ∧ R'.vs = L.vs.drop d ∧ R'.kids = L.kids.drop d) := by
  obtain ⟨iK, hiK, hzK, hsK, hbK⟩ := info_parts infoK
  obtain ⟨iI, hiI, hzI, hsI, hbI⟩ := info_parts infoI
  obtain ⟨iP, hiP, hzP, hsP, hbP⟩ := info_parts infoP
  have hPp := hM.page hp
  have hPl := hM.page hl
  have k2 : w.cell? ⟨p, 2, none⟩ = some (.slice (some ⟨P.gc, 0, none⟩) P.kids.length P.cc) := by rw [hPp.blk.cell 2]; exact congrArg some (sl_pos _ _ _ (hPp.kids.pos (by omega)))
  have k2i : w.cell? ⟨P.gc, i, none⟩ = some (.pointer (some ⟨lp, 0, none⟩)) := by rw [← hki]; exact hPp.kid (by omega)
  have hil : (i : Int) < (P.kids.length : Int) := by omega
  have hi0 : (0 : Int) ≤ (i : Int) := by omega
  have hck := hPl.keys.1
  have hcv := hPl.vals.1
  have HPL := Lib.hid hPl
  have HPP := Lib.hid hPp
  have HM := Lib.hid hM
  clear hPp hPl hM
  go_enter Try.func46, Try.ntmps46
  go_upto_region 1 with fail
  clear k2 k2i hil hi0
  go_cut [7] (fun s wx => ∃ rp R, s = .pointer (some ⟨rp, 0, none⟩) ∧ Below w.heap.size w wx ∧ NewPage w wx rp R (L.ks.drop d) (L.vs.drop d) [])
  case first =>
    --<
    have hA1 : ∀ (b : Nat) (W : World), Below w.heap.size w W → (appK #[.slice (some ⟨b, 0, none⟩) 0 0, .slice (some ⟨L.gk, d * 2, none⟩) (L.ks.length - d) (L.ck - d)]).run Try.prog W = .ok (.slice (some ⟨W.heap.size, 0, none⟩) (L.ks.length - d) (grownCap W (L.ks.length - d) 0 24)) (W.drew.alloc (.cells ((kcells (L.ks.drop d)) ++ (Builtin.zeroCells (Value.agg #[.int .i64 0, .int .i64 0]).cells (grownCap W (L.ks.length - d) 0 24 - (L.ks.length - d))).toList).toArray 24)) := fun b W hW =>
      run_append_empty W _ _ 24 iK _ 2 16 Try.underlying39 hiK hzK hsK hbK ⟨b, 0, none⟩ ⟨L.gk, d * 2, none⟩ (L.ks.length - d) _ (by omega) (kcells (L.ks.drop d)) (by rw [kcells_len, List.length_drop]) (by rw [kcells_drop]; exact (HPL.out.keys.on hW).from_ (by omega) _) (by unfold maxLen; omega) (by omega)
    have hA2 : ∀ (b : Nat) (W : World), Below w.heap.size w W → (appI #[.slice (some ⟨b, 0, none⟩) 0 0, .slice (some ⟨L.gv, d, none⟩) (L.vs.length - d) (L.cv - d)]).run Try.prog W = .ok (.slice (some ⟨W.heap.size, 0, none⟩) (L.vs.length - d) (grownCap W (L.vs.length - d) 0 3)) (W.drew.alloc (.cells ((vcells (L.vs.drop d)) ++ (Builtin.zeroCells (Value.int .i64 0).cells (grownCap W (L.vs.length - d) 0 3 - (L.vs.length - d))).toList).toArray 3)) := fun b W hW =>
      run_append_empty W _ _ 3 iI _ 1 8 Try.underlying58 hiI hzI hsI hbI ⟨b, 0, none⟩ ⟨L.gv, d, none⟩ (L.vs.length - d) _ (by omega) (vcells (L.vs.drop d)) (by simp [vcells]) (by rw [show vcells (L.vs.drop d) = (vcells L.vs).drop d by simp [vcells, List.map_drop]]; exact (HPL.out.vals.on hW).from_ (by omega) _) (by unfold maxLen; omega) (by omega)
    have d1 : (0 : Int) ≤ (d : Int) := by omega
    have d2 : d ≤ L.ks.length := by omega
    have d3 : d ≤ L.ck := by omega
    have d4 : ¬ L.ck = d := by omega
    have d5 : d ≤ L.vs.length := by omega
    have d6 : d ≤ L.cv := by omega
    have d7 : ¬ L.cv = d := by omega
    have HH := Lib.hid (And.intro hln hlv)
    clear hln hlv
    have HA1 := Lib.hid hA1
    have HA2 := Lib.hid hA2
    clear hA1 hA2
    have HS := Lib.hid (show ∀ W, Below w.heap.size w W → (W.cell? ⟨lp, 0, none⟩ = some (.slice (some ⟨L.gk, 0, none⟩) L.ks.length L.ck) ∧ W.cell? ⟨lp, 1, none⟩ = some (.slice (some ⟨L.gv, 0, none⟩) L.vs.length L.cv) ∧ Below w.heap.size w W
        ∧ (∀ b, (appK #[.slice (some ⟨b, 0, none⟩) 0 0, .slice (some ⟨L.gk, d * 2, none⟩) (L.ks.length - d) (L.ck - d)]).run Try.prog W = .ok (.slice (some ⟨W.heap.size, 0, none⟩) (L.ks.length - d) (grownCap W (L.ks.length - d) 0 24)) (W.drew.alloc (.cells ((kcells (L.ks.drop d)) ++ (Builtin.zeroCells (Value.agg #[.int .i64 0, .int .i64 0]).cells (grownCap W (L.ks.length - d) 0 24 - (L.ks.length - d))).toList).toArray 24)))
        ∧ (∀ b, (appI #[.slice (some ⟨b, 0, none⟩) 0 0, .slice (some ⟨L.gv, d, none⟩) (L.vs.length - d) (L.cv - d)]).run Try.prog W = .ok (.slice (some ⟨W.heap.size, 0, none⟩) (L.vs.length - d) (grownCap W (L.vs.length - d) 0 3)) (W.drew.alloc (.cells ((vcells (L.vs.drop d)) ++ (Builtin.zeroCells (Value.int .i64 0).cells (grownCap W (L.vs.length - d) 0 3 - (L.vs.length - d))).toList).toArray 3)))) from fun W hb =>
      ⟨by rw [(HPL.out.on hb).blk.cell 0]; exact congrArg some (sl_pos _ _ _ (by omega)), by rw [(HPL.out.on hb).blk.cell 1]; exact congrArg some (sl_pos _ _ _ (by omega)), hb, fun b => HA1.out b _ hb, fun b => HA2.out b _ hb⟩)
    go_region_held3 (fun W => W.cell? ⟨lp, 0, none⟩ = some (.slice (some ⟨L.gk, 0, none⟩) L.ks.length L.ck) ∧ W.cell? ⟨lp, 1, none⟩ = some (.slice (some ⟨L.gv, 0, none⟩) L.vs.length L.cv) ∧ Below w.heap.size w W
        ∧ (∀ b, (appK #[.slice (some ⟨b, 0, none⟩) 0 0, .slice (some ⟨L.gk, d * 2, none⟩) (L.ks.length - d) (L.ck - d)]).run Try.prog W = .ok (.slice (some ⟨W.heap.size, 0, none⟩) (L.ks.length - d) (grownCap W (L.ks.length - d) 0 24)) (W.drew.alloc (.cells ((kcells (L.ks.drop d)) ++ (Builtin.zeroCells (Value.agg #[.int .i64 0, .int .i64 0]).cells (grownCap W (L.ks.length - d) 0 24 - (L.ks.length - d))).toList).toArray 24)))
        ∧ (∀ b, (appI #[.slice (some ⟨b, 0, none⟩) 0 0, .slice (some ⟨L.gv, d, none⟩) (L.vs.length - d) (L.cv - d)]).run Try.prog W = .ok (.slice (some ⟨W.heap.size, 0, none⟩) (L.vs.length - d) (grownCap W (L.vs.length - d) 0 3)) (W.drew.alloc (.cells ((vcells (L.vs.drop d)) ++ (Builtin.zeroCells (Value.int .i64 0).cells (grownCap W (L.vs.length - d) 0 3 - (L.vs.length - d))).toList).toArray 3))))
      (first
        | exact HS.out _ (by (repeat (first | (with_reducible assumption) | (with_reducible exact Below.refl _ _) | ((with_reducible refine Below.setCell ?_ ?_ _); rotate_left; · (first | omega | (simp; done) | (simp; omega) | (simp at *; omega))) | ((with_reducible refine Below.alloc ?_ ?_ _); rotate_left; · (first | omega | (simp; done) | (simp; omega) | (simp at *; omega))) | (with_reducible refine Below.drew ?_) | (with_reducible refine below_drewN ?_ _) | ((refine Below.trans ?_ (Below.mono (by with_reducible assumption) ?_)); rotate_left; · (first | omega | (simp; done) | (simp; omega) | (simp at *; omega))))))
        | (go_split_ands; exact HS.out _ (by (repeat (first | (with_reducible assumption) | (with_reducible exact Below.refl _ _) | ((with_reducible refine Below.setCell ?_ ?_ _); rotate_left; · (first | omega | (simp; done) | (simp; omega) | (simp at *; omega))) | ((with_reducible refine Below.alloc ?_ ?_ _); rotate_left; · (first | omega | (simp; done) | (simp; omega) | (simp at *; omega))) | (with_reducible refine Below.drew ?_) | (with_reducible refine below_drewN ?_ _) | ((refine Below.trans ?_ (Below.mono (by with_reducible assumption) ?_)); rotate_left; · (first | omega | (simp; done) | (simp; omega) | (simp at *; omega))))))))
      (fail)
    all_goals
      go_wp2_with fail
      go_meet
      refine closeR (by (repeat (first | (with_reducible assumption) | (with_reducible exact Below.refl _ _) | ((with_reducible refine Below.setCell ?_ ?_ _); rotate_left; · (first | omega | (simp; done) | (simp; omega) | (simp at *; omega))) | ((with_reducible refine Below.alloc ?_ ?_ _); rotate_left; · (first | omega | (simp; done) | (simp; omega) | (simp at *; omega))) | (with_reducible refine Below.drew ?_) | (with_reducible refine below_drewN ?_ _) | ((refine Below.trans ?_ (Below.mono (by with_reducible assumption) ?_)); rotate_left; · (first | omega | (simp; done) | (simp; omega) | (simp at *; omega)))))) ?_
      refine newpage (by repeat (first | (with_reducible refine Blk.at_end _ _ _ ?_; simp only [World.size_alloc]; done) | with_reducible apply Blk.alloc | with_reducible apply Blk.drew)) (by repeat (first | (with_reducible refine Blk.at_end _ _ _ ?_; simp only [World.size_alloc]; done) | with_reducible apply Blk.alloc | with_reducible apply Blk.drew)) (by repeat (first | (with_reducible refine Blk.at_end _ _ _ ?_; simp only [World.size_alloc]; done) | with_reducible apply Blk.alloc | with_reducible apply Blk.drew)) (by rw [List.length_drop]) (by rw [List.length_drop]) (by have := HH.out; omega) (by have := HH.out; omega) (grownCap_ge _ _ _ _) (grownCap_ge _ _ _ _) (fitsK (by rw [List.length_drop]) rfl) (fitsI (by rw [List.length_drop]) rfl) (by omega) (by omega) (by omega)
    -->
  obtain ⟨rp, R, rfl, hb1, hN⟩ := hcut
  obtain ⟨wx, rfl⟩ : ∃ wq : World, wq = wc := ⟨_, rfl⟩
  obtain ⟨hS, hn1, hn2, hrp⟩ := St.start HM.out hB hp hl hb1 hN
  obtain ⟨A, hA, hA1, hA0⟩ := sl_form L.gc L.kids.length L.cc (hS.th.page (N3.l hne)).kids.1
  have k2 : wx.cell? ⟨lp, 2, none⟩ = some (.slice A L.kids.length L.cc) := by rw [(hS.th.page (N3.l hne)).blk.cell 2]; exact congrArg some hA
  have HK := Lib.hid hN.kids
  have HV := Lib.hid (And.intro hN.ks hN.vs)
  have HC := Lib.hid (And.intro hN.ck hN.cv)
  have HS := Lib.hid hS
  have HA := Lib.hid (And.intro hA1 hA0)
  clear hN hS hA hA1 hA0 hb1
  have HLK := Lib.hid hlk
  clear hlk
  go_upto_if 40 with fail
  go_cut [] (fun wy => ∃ L2 R2, St B w M p P lp L2 rp R2 wy ∧ L2.ks = L.ks ∧ L2.vs = L.vs ∧ L2.kids = L.kids.take d ∧ R2.ks = L.ks.drop d ∧ R2.vs = L.vs.drop d ∧ R2.kids = L.kids.drop d)
  case first =>
    --<
    rcases HLK.out with h0 | h0
    · have hz : L.kids.length = 0 := by rw [h0]; rfl
      rw [hz]
      go_wp2_with fail
      go_meet
      exact ⟨L, R, HS.out, rfl, rfl, by rw [h0]; simp, HV.out.1, HV.out.2, by rw [HK.out, h0]; simp⟩
    · have hcc : 0 < L.cc := (HS.out.th.page (N3.l hne)).kids.pos (by omega)
      obtain rfl := HA.out.1 hcc
      have hd1 : d ≤ L.kids.length := by omega
      have hd2' : d ≤ L.cc := by have := (HS.out.th.page (N3.l hne)).kids.1; omega
      have hd3 : ¬ L.cc = d := by have := (HS.out.th.page (N3.l hne)).kids.1; omega
      have hd0 : (0 : Int) ≤ (d : Int) := by omega
      have hb2 : Below wx.heap.size wx (wx.alloc (.cells #[] 69)) := by (repeat (first | (with_reducible assumption) | (with_reducible exact Below.refl _ _) | ((with_reducible refine Below.setCell ?_ ?_ _); rotate_left; · (first | omega | (simp; done) | (simp; omega) | (simp at *; omega))) | ((with_reducible refine Below.alloc ?_ ?_ _); rotate_left; · (first | omega | (simp; done) | (simp; omega) | (simp at *; omega))) | (with_reducible refine Below.drew ?_) | (with_reducible refine below_drewN ?_ _) | ((refine Below.trans ?_ (Below.mono (by with_reducible assumption) ?_)); rotate_left; · (first | omega | (simp; done) | (simp; omega) | (simp at *; omega)))))
      have k2' : (wx.alloc (.cells #[] 69)).cell? ⟨lp, 2, none⟩ = some (.slice (some ⟨L.gc, 0, none⟩) L.kids.length L.cc) := by
        rw [((HS.out.th.page (N3.l hne)).on hb2).blk.cell 2]
        exact congrArg some (sl_pos _ _ _ hcc)
      have hrun := run_append_empty (wx.alloc (.cells #[] 69)) 80 80 69 iP _ 1 8 Try.underlying80 hiP hzP hsP hbP ⟨wx.heap.size, 0, none⟩ ⟨L.gc, d, none⟩ (L.kids.length - d) (L.cc - d) (by omega) (pcells (L.kids.drop d)) (by simp [pcells]) (by rw [show pcells (L.kids.drop d) = (pcells L.kids).drop d by simp [pcells, List.map_drop]]; exact ((HS.out.th.page (N3.l hne)).on hb2).kids.from_ hcc _) (by unfold maxLen; omega) (by omega)
      obtain ⟨w3, hw3⟩ : ∃ w3 : World, w3 = (wx.alloc (.cells #[] 69)).drew.alloc (.cells (pcells (L.kids.drop d) ++ (Builtin.zeroCells (Value.pointer none).cells (grownCap (wx.alloc (.cells #[] 69)) (L.kids.length - d) 0 69 - (L.kids.length - d))).toList).toArray 69) := ⟨_, rfl⟩
      obtain ⟨g3, hg3⟩ : ∃ g3, g3 = (wx.alloc (.cells #[] 69)).heap.size := ⟨_, rfl⟩
      obtain ⟨c3, hc3⟩ : ∃ c3, c3 = grownCap (wx.alloc (.cells #[] 69)) (L.kids.length - d) 0 69 := ⟨_, rfl⟩
      have hc3' : L.kids.length - d ≤ c3 := by rw [hc3]; exact grownCap_ge _ _ _ _
      have hr3 : RowAt w3 g3 69 1 (L.kids.drop d).length c3 (pcells (L.kids.drop d)) := row_new (by simp [pcells]) (by rw [List.length_drop]; exact hc3') (by rw [hc3]; exact cap_fits (z := .pointer none) (by simp [pcells]) rfl) (by rw [hw3]; refine Blk.at_end _ _ _ ?_; rw [hg3]; rfl)
      have hb3 : Below wx.heap.size wx w3 := by rw [hw3]; exact ((Below.refl wx.heap.size wx).alloc (Nat.le_refl _) _).trans (((Below.refl _ _).drew.alloc (Nat.le_refl _) _).mono (by simp))
      have hg3l : wx.heap.size ≤ g3 := by rw [hg3]; simp
      rw [← hw3, ← hg3, ← hc3] at hrun
      clear hw3 hg3 hc3
      have hS3 := HS.out.on hb3
      have hX := (hS3.th.page (N3.r hn1 hn2)).set2 hr3 (by omega)
      have hS4 := HS.out.turnR hB hn1 hn2 ((Touch.of_below hb3 _).trans (Touch.set w3 ⟨rp, 2, none⟩ (.slice (some ⟨g3, 0, none⟩) (L.kids.drop d).length c3) _ (by simp))) hX (fun h => .inl ⟨h, rfl⟩) (fun h => .inl ⟨h, rfl⟩) (fun _ => .inr hg3l)
      rw [List.length_drop] at hS4
      have hcut := (hS4.th.page (N3.l hne)).kids.cut (m := d) (by omega)
      have hX5 := (hS4.th.page (N3.l hne)).set2 (g := L.gc) (c := d) (ps := L.kids.take d) (by rw [show (L.kids.take d).length = d by rw [List.length_take]; omega, show pcells (L.kids.take d) = (pcells L.kids).take (d * 1) by simp [pcells, List.map_take]]; exact hcut) (by omega)
      have hS5 := hS4.turnL hB hne (Touch.set _ ⟨lp, 2, none⟩ _ _ (by simp)) hX5 (fun h => .inl ⟨h, rfl⟩) (fun h => .inl ⟨h, rfl⟩) (fun _ => .inl ⟨hcc, rfl⟩)
      rw [show (L.kids.take d).length = d by rw [List.length_take]; omega] at hS5
      have HS5 := Lib.hid hS5
      have r2 := (hS3.th.page (N3.r hn1 hn2)).blk.cell 2
      have r2f := (hS3.th.page (N3.r hn1 hn2)).blk.frozen 2
      have l2f := (hS3.th.page (N3.l hne)).blk.frozen 2
      have l2g := (hS4.th.page (N3.l hne)).blk.frozen 2
      have l2 : (w3.setCell ⟨rp, 2, none⟩ (.slice (some ⟨g3, 0, none⟩) (L.kids.length - d) c3)).cell? ⟨lp, 2, none⟩ = some (.slice (some ⟨L.gc, 0, none⟩) L.kids.length L.cc) := by
        rw [(hS4.th.page (N3.l hne)).blk.cell 2]
        exact congrArg some (sl_pos _ _ _ hcc)
      clear hX hS3 hS4 hr3 hb3 hS5 hX5 hcut
      have H0 := Lib.hid h0
      have hpos : 0 < L.kids.length := by omega
      clear h0
      go_wp2_with (at_builtin; refine wpList_append_run rfl (.tmp 42) (.tmp 48) 80 rfl rfl rfl hrun ?_)
      go_meet
      exact ⟨_, _, HS5.out, rfl, rfl, rfl, HV.out.1, HV.out.2, rfl⟩
    -->
  obtain ⟨L2, R2, hS, hLk, hLv, hLc, hRk, hRv, hRc⟩ := hcut
  obtain ⟨wy, rfl⟩ : ∃ wq : World, wq = wc := ⟨_, rfl⟩
  clear k2
  have hck := (hS.th.page (N3.l hne)).keys.1
  have hcv := (hS.th.page (N3.l hne)).vals.1
  have hlen : L2.ks.length = 2 * d - 1 := by rw [hLk]; exact hln
  have hlev : L2.vs.length = 2 * d - 1 := by rw [hLv, hlv]; exact hln
  rw [hlen] at hck
  rw [hlev] at hcv
  have HS := Lib.hid hS
  have HE := Lib.hid (And.intro hlen hlev)
  have HF := Lib.hid (And.intro (And.intro hLk (And.intro hLv hLc)) (And.intro hRk (And.intro hRv hRc)))
  have HG := Lib.hid (And.intro hln hlv)
  clear hS hlen hlev hLk hLv hLc hRk hRv hRc hln hlv
  obtain ⟨e, he⟩ : ∃ e, e = d - 1 := ⟨_, rfl⟩
  obtain ⟨q, hq⟩ : ∃ q, q = L.ks.getD (d - 1) k0 := ⟨_, rfl⟩
  obtain ⟨qv, hqv⟩ : ∃ qv, qv = L.vs.getD (d - 1) 0 := ⟨_, rfl⟩
  have hwr : IntKind.i64.wrap ((d : Int) - 1) = (e : Int) := by rw [IntWalk.i64_in _ (by omega)]; omega
  have hei : (e : Int) < (L2.ks.length : Int) := by have := HE.out; omega
  have hev : (e : Int) < (L2.vs.length : Int) := by have := HE.out; omega
  have he0 : (0 : Int) ≤ (e : Int) := by omega
  have HQ := Lib.hid (And.intro he (And.intro hq hqv))
  have hEk : e < L2.ks.length := by have := HE.out; omega
  have hEv : e < L2.vs.length := by have := HE.out; omega
  have HQ2 := Lib.hid (And.intro hEk hEv)
  clear he hq hqv hEk hEv
  go_upto_region 5 with fail
  go_cut [8, 9] (fun s1 s2 wz => ∃ b8, s1 = .pointer (some ⟨b8, 0, none⟩) ∧ s2 = .int .i64 qv ∧ Blk wz b8 24 q.cells ∧ Below wy.heap.size wy wz ∧ wy.heap.size ≤ b8)
  case first =>
    --<
    have HS5 := Lib.hid (show ∀ W, Below wy.heap.size wy W → (W.cell? ⟨lp, 0, none⟩ = some (.slice (some ⟨L2.gk, 0, none⟩) L2.ks.length L2.ck) ∧ W.cell? ⟨lp, 1, none⟩ = some (.slice (some ⟨L2.gv, 0, none⟩) L2.vs.length L2.cv) ∧ W.cell? ⟨L2.gk, e * 2, none⟩ = some (.int .i64 q.t) ∧ W.cell? ⟨L2.gk, e * 2 + 1, none⟩ = some (.int .i64 q.s) ∧ W.cell? ⟨L2.gv, e, none⟩ = some (.int .i64 qv) ∧ Below wy.heap.size wy W) from fun W hb => by
      have hPl := (HS.out.on hb).th.page (N3.l hne)
      obtain ⟨h1, h2, h3⟩ := HQ.out
      have hk := hPl.key HQ2.out.1
      have hv := hPl.val HQ2.out.2
      rw [show L2.ks.getD e k0 = q by rw [h2, HF.out.1.1, h1]] at hk
      rw [show L2.vs.getD e 0 = qv by rw [h3, HF.out.1.2.1, h1]] at hv
      exact ⟨by rw [hPl.blk.cell 0]; exact congrArg some (sl_pos _ _ _ (by have := HQ2.out; omega)), by rw [hPl.blk.cell 1]; exact congrArg some (sl_pos _ _ _ (by have := HQ2.out; omega)), hk.1, hk.2, hv, hb⟩)
    go_region_held3 (fun W => W.cell? ⟨lp, 0, none⟩ = some (.slice (some ⟨L2.gk, 0, none⟩) L2.ks.length L2.ck) ∧ W.cell? ⟨lp, 1, none⟩ = some (.slice (some ⟨L2.gv, 0, none⟩) L2.vs.length L2.cv) ∧ W.cell? ⟨L2.gk, e * 2, none⟩ = some (.int .i64 q.t) ∧ W.cell? ⟨L2.gk, e * 2 + 1, none⟩ = some (.int .i64 q.s) ∧ W.cell? ⟨L2.gv, e, none⟩ = some (.int .i64 qv) ∧ Below wy.heap.size wy W)
      (first
        | exact HS5.out _ (by (repeat (first | (with_reducible assumption) | (with_reducible exact Below.refl _ _) | ((with_reducible refine Below.setCell ?_ ?_ _); rotate_left; · (first | omega | (simp; done) | (simp; omega) | (simp at *; omega))) | ((with_reducible refine Below.alloc ?_ ?_ _); rotate_left; · (first | omega | (simp; done) | (simp; omega) | (simp at *; omega))) | (with_reducible refine Below.drew ?_) | (with_reducible refine below_drewN ?_ _) | ((refine Below.trans ?_ (Below.mono (by with_reducible assumption) ?_)); rotate_left; · (first | omega | (simp; done) | (simp; omega) | (simp at *; omega))))))
        | (go_split_ands; exact HS5.out _ (by (repeat (first | (with_reducible assumption) | (with_reducible exact Below.refl _ _) | ((with_reducible refine Below.setCell ?_ ?_ _); rotate_left; · (first | omega | (simp; done) | (simp; omega) | (simp at *; omega))) | ((with_reducible refine Below.alloc ?_ ?_ _); rotate_left; · (first | omega | (simp; done) | (simp; omega) | (simp at *; omega))) | (with_reducible refine Below.drew ?_) | (with_reducible refine below_drewN ?_ _) | ((refine Below.trans ?_ (Below.mono (by with_reducible assumption) ?_)); rotate_left; · (first | omega | (simp; done) | (simp; omega) | (simp at *; omega))))))))
      (fail)
    all_goals
      go_wp2_with fail
      go_meet
      exact ⟨_, rfl, rfl, (Blk.new _ _ _).drew, by (repeat (first | (with_reducible assumption) | (with_reducible exact Below.refl _ _) | ((with_reducible refine Below.setCell ?_ ?_ _); rotate_left; · (first | omega | (simp; done) | (simp; omega) | (simp at *; omega))) | ((with_reducible refine Below.alloc ?_ ?_ _); rotate_left; · (first | omega | (simp; done) | (simp; omega) | (simp at *; omega))) | (with_reducible refine Below.drew ?_) | (with_reducible refine below_drewN ?_ _) | ((refine Below.trans ?_ (Below.mono (by with_reducible assumption) ?_)); rotate_left; · (first | omega | (simp; done) | (simp; omega) | (simp at *; omega))))), Nat.le_refl _⟩
    -->
  obtain ⟨b8, rfl, rfl, hb8, hbz, hb8n⟩ := hcut
  obtain ⟨wz, rfl⟩ : ∃ wq : World, wq = wc := ⟨_, rfl⟩
  have HB8 := Lib.hid hb8
  have HB8n := Lib.hid (key_free (HS.out.th.page N3.own) hb8n)
  have HS2 := Lib.hid (HS.out.on hbz)
  clear hb8 hbz hb8n HS hei hev
  have hk1 : e ≤ L2.ck := by have := HE.out; have := HQ.out.1; omega
  have hk2 : ¬ L2.ck = e := by have := HE.out; have := HQ.out.1; omega
  have hv1 : e ≤ L2.cv := by have := HE.out; have := HQ.out.1; omega
  have hv2 : ¬ L2.cv = e := by have := HE.out; have := HQ.out.1; omega
  have hk3 : e ≤ L2.ks.length := by have := HQ2.out; omega
  have hv3 : e ≤ L2.vs.length := by have := HQ2.out; omega
  have HEP := Lib.hid (show 0 < e by have := HQ.out.1; omega)
  have HS6 := Lib.hid (show ∀ W, Below wz.heap.size wz W → (W.cell? ⟨lp, 0, none⟩ = some (.slice (some ⟨L2.gk, 0, none⟩) L2.ks.length L2.ck) ∧ W.cell? ⟨lp, 1, none⟩ = some (.slice (some ⟨L2.gv, 0, none⟩) L2.vs.length L2.cv) ∧ Below wz.heap.size wz W) from fun W hb => by
    have hPl := (HS2.out.on hb).th.page (N3.l hne)
    exact ⟨by rw [hPl.blk.cell 0]; exact congrArg some (sl_pos _ _ _ (by have := HQ2.out; omega)), by rw [hPl.blk.cell 1]; exact congrArg some (sl_pos _ _ _ (by have := HQ2.out; omega)), hb⟩)
  go_upto_region 6 with fail
  go_cut [] (fun wd => ∃ L3, St B w M p P lp L3 rp R2 wd ∧ (L3.ks = L2.ks.take e ∧ L3.vs = L2.vs.take e ∧ L3.kids = L2.kids) ∧ Blk wd b8 24 q.cells)
  case first =>
    --<
    have hPd := HS2.out.th.page (N3.l hne)
    have e1 : (L2.ks.take e).length = e := by rw [List.length_take]; omega
    have e2 : (L2.vs.take e).length = e := by rw [List.length_take]; omega
    have hX0 := hPd.set0 (g := L2.gk) (c := e) (ks := L2.ks.take e) (by rw [e1, kcells_take]; exact hPd.keys.cut hk3) HEP.out
    have hX1 := hX0.set1 (g := L2.gv) (c := e) (vs := L2.vs.take e) (by rw [e2, show vcells (L2.vs.take e) = (vcells L2.vs).take (e * 1) by simp [vcells, List.map_take]]; exact hX0.vals.cut hv3) HEP.out
    have hS3 := HS2.out.turnL hB hne ((Touch.set _ ⟨lp, 0, none⟩ (.slice (some ⟨L2.gk, 0, none⟩) (L2.ks.take e).length e) _ (by simp)).trans (Touch.set _ ⟨lp, 1, none⟩ (.slice (some ⟨L2.gv, 0, none⟩) (L2.vs.take e).length e) _ (by simp))) hX1 (fun _ => .inl ⟨by have := HEP.out; omega, rfl⟩) (fun _ => .inl ⟨by have := HEP.out; omega, rfl⟩) (fun h => .inl ⟨h, rfl⟩)
    have hb8' : Blk ((wz.setCell ⟨lp, 0, none⟩ (.slice (some ⟨L2.gk, 0, none⟩) (L2.ks.take e).length e)).setCell ⟨lp, 1, none⟩ (.slice (some ⟨L2.gv, 0, none⟩) (L2.vs.take e).length e)) b8 24 q.cells := HB8.out.touch (L := [lp]) ((Touch.set _ ⟨lp, 0, none⟩ _ _ (by simp)).trans (Touch.set _ ⟨lp, 1, none⟩ _ _ (by simp))) (fun hm => by
      rw [List.mem_singleton] at hm
      subst hm
      exact absurd (blk_type HB8.out (HS2.out.th.page (N3.l hne)).blk) (by decide))
    rw [e1, e2] at hS3 hb8'
    have l0f := hPd.blk.frozen 0
    have l1f := hPd.blk.frozen 1
    have l0 : wz.cell? ⟨lp, 0, none⟩ = some (.slice (some ⟨L2.gk, 0, none⟩) L2.ks.length L2.ck) := (HS6.out wz (Below.refl _ _)).1
    have l1 : wz.cell? ⟨lp, 1, none⟩ = some (.slice (some ⟨L2.gv, 0, none⟩) L2.vs.length L2.cv) := (HS6.out wz (Below.refl _ _)).2.1
    have HS3 := Lib.hid (hS3.on ((Below.refl _ _).drew))
    have HB3 := Lib.hid hb8'.drew
    clear hPd e1 e2 hX0 hX1 hS3 hb8'
    refine (wpIn_wide (n := 0)).1 ?_
    refine anyS_region (S := (fun W => W.cell? ⟨lp, 0, none⟩ = some (.slice (some ⟨L2.gk, 0, none⟩) L2.ks.length L2.ck) ∧ W.cell? ⟨lp, 1, none⟩ = some (.slice (some ⟨L2.gv, 0, none⟩) L2.vs.length L2.cv) ∧ Below wz.heap.size wz W)) 22 (by kernel_rfl) ?_ (fun hHeld => ?_)
    · exact HS6.out _ (by (repeat (first | (with_reducible assumption) | (with_reducible exact Below.refl _ _) | ((with_reducible refine Below.setCell ?_ ?_ _); rotate_left; · (first | omega | (simp; done) | (simp; omega) | (simp at *; omega))) | ((with_reducible refine Below.alloc ?_ ?_ _); rotate_left; · (first | omega | (simp; done) | (simp; omega) | (simp at *; omega))) | (with_reducible refine Below.drew ?_) | (with_reducible refine below_drewN ?_ _) | ((refine Below.trans ?_ (Below.mono (by with_reducible assumption) ?_)); rotate_left; · (first | omega | (simp; done) | (simp; omega) | (simp at *; omega))))))
    refine anyS_takeW (i := 0) (v := ?_) (by (simp only [List.getElem?_toArray, List.getElem?_cons_zero]); exact rfl) (by kernel_rfl) (by kernel_rfl) (by kernel_rfl) (by decide) (by intro _ _ _ h; exact h) ⟨Or.inl ⟨by rfl, ?_⟩, fun _ => rfl⟩ (by assumption) ?_
    rotate_left
    · (intro w; go_simp; (try with_reducible rfl))
    try simp only [Act.put, List.setIfInBounds_toArray, List.set_cons_zero, List.set_cons_succ]
    refine anyS_takeW (i := 1) (v := ?_) (by (simp only [List.getElem?_toArray, List.getElem?_cons_zero, List.getElem?_cons_succ]); exact rfl) (by kernel_rfl) (by kernel_rfl) (by kernel_rfl) (by decide) (by intro _ _ _ h; exact h) ⟨Or.inl ⟨by rfl, ?_⟩, fun _ => rfl⟩ (by assumption) ?_
    rotate_left
    · (intro w; go_simp; (try with_reducible rfl))
    try simp only [Act.put, List.setIfInBounds_toArray, List.set_cons_zero, List.set_cons_succ]
    refine anyS_takeW (i := 2) (v := ?_) (by (simp only [List.getElem?_toArray, List.getElem?_cons_zero, List.getElem?_cons_succ]); exact rfl) (by kernel_rfl) (by kernel_rfl) (by kernel_rfl) (by decide) (by intro _ _ _ h; exact h) ⟨Or.inl ⟨by rfl, ?_⟩, fun _ => rfl⟩ (by assumption) ?_
    rotate_left
    · (intro w; go_simp; (try with_reducible rfl))
    try simp only [Act.put, List.setIfInBounds_toArray, List.set_cons_zero, List.set_cons_succ]
    refine anyS_takeW (i := 3) (v := ?_) (by (simp only [List.getElem?_toArray, List.getElem?_cons_zero, List.getElem?_cons_succ]); exact rfl) (by kernel_rfl) (by kernel_rfl) (by kernel_rfl) (by decide) (by intro _ _ _ h; exact h) ⟨Or.inl ⟨by rfl, ?_⟩, fun _ => rfl⟩ (by assumption) ?_
    rotate_left
    · (intro w; go_simp; (try with_reducible rfl))
    try simp only [Act.put, List.setIfInBounds_toArray, List.set_cons_zero, List.set_cons_succ]
    refine anyS_takeW (i := 4) (v := ?_) (by (simp only [List.getElem?_toArray, List.getElem?_cons_zero, List.getElem?_cons_succ]); exact rfl) (by kernel_rfl) (by kernel_rfl) (by kernel_rfl) (by decide) (by intro _ _ _ h; exact h) ⟨Or.inl ⟨by rfl, ?_⟩, fun _ => rfl⟩ (by assumption) ?_
    rotate_left
    · (intro w; go_simp; (try with_reducible rfl))
    try simp only [Act.put, List.setIfInBounds_toArray, List.set_cons_zero, List.set_cons_succ]
    refine anyS_take (i := 5) (v := ?_) (by (simp only [List.getElem?_toArray, List.getElem?_cons_zero, List.getElem?_cons_succ]); exact rfl) (by kernel_rfl) (by kernel_rfl) (by kernel_rfl) (by kernel_rfl) (by decide) (by intro _ _ _ h; exact h) (Or.inl ⟨by rfl, ?_⟩) (by assumption) ?_
    rotate_left
    · (intro w hSw; (try dsimp only at hSw); go_simp; (try with_reducible rfl))
    try simp only [Act.put, List.setIfInBounds_toArray, List.set_cons_zero, List.set_cons_succ]
    refine anyS_takeW (i := 6) (v := ?_) (by (simp only [List.getElem?_toArray, List.getElem?_cons_zero, List.getElem?_cons_succ]); exact rfl) (by kernel_rfl) (by kernel_rfl) (by kernel_rfl) (by decide) (by intro _ _ _ h; exact h) ⟨Or.inl ⟨by rfl, ?_⟩, fun _ => rfl⟩ (by assumption) ?_
    rotate_left
    · (intro w; go_simp; (try with_reducible rfl))
    try simp only [Act.put, List.setIfInBounds_toArray, List.set_cons_zero, List.set_cons_succ]
    refine anyS_takeW (i := 7) (v := ?_) (by (simp only [List.getElem?_toArray, List.getElem?_cons_zero, List.getElem?_cons_succ]); exact rfl) (by kernel_rfl) (by kernel_rfl) (by kernel_rfl) (by decide) (by intro _ _ _ h; exact h) ⟨Or.inl ⟨by rfl, ?_⟩, fun _ => rfl⟩ (by assumption) ?_
    rotate_left
    · (intro w; go_simp; (try with_reducible rfl))
    try simp only [Act.put, List.setIfInBounds_toArray, List.set_cons_zero, List.set_cons_succ]
    refine anyS_takeW (i := 8) (v := ?_) (by (simp only [List.getElem?_toArray, List.getElem?_cons_zero, List.getElem?_cons_succ]); exact rfl) (by kernel_rfl) (by kernel_rfl) (by kernel_rfl) (by decide) (by intro _ _ _ h; exact h) ⟨Or.inl ⟨by rfl, ?_⟩, fun _ => rfl⟩ (by assumption) ?_
    rotate_left
    · (intro w; go_simp; (try with_reducible rfl))
    try simp only [Act.put, List.setIfInBounds_toArray, List.set_cons_zero, List.set_cons_succ]
    refine anyS_takeW (i := 9) (v := ?_) (by (simp only [List.getElem?_toArray, List.getElem?_cons_zero, List.getElem?_cons_succ]); exact rfl) (by kernel_rfl) (by kernel_rfl) (by kernel_rfl) (by decide) (by intro _ _ _ h; exact h) ⟨Or.inl ⟨by rfl, ?_⟩, fun _ => rfl⟩ (by assumption) ?_
    rotate_left
    · (intro w; go_simp; (try with_reducible rfl))
    try simp only [Act.put, List.setIfInBounds_toArray, List.set_cons_zero, List.set_cons_succ]
    refine anyS_takeW (i := 10) (v := ?_) (by (simp only [List.getElem?_toArray, List.getElem?_cons_zero, List.getElem?_cons_succ]); exact rfl) (by kernel_rfl) (by kernel_rfl) (by kernel_rfl) (by decide) (by intro _ _ _ h; exact h) ⟨Or.inl ⟨by rfl, ?_⟩, fun _ => rfl⟩ (by assumption) ?_
    rotate_left
    · (intro w; go_simp; (try with_reducible rfl))
    try simp only [Act.put, List.setIfInBounds_toArray, List.set_cons_zero, List.set_cons_succ]
    refine anyS_takeW (i := 11) (v := ?_) (by (simp only [List.getElem?_toArray, List.getElem?_cons_zero, List.getElem?_cons_succ]); exact rfl) (by kernel_rfl) (by kernel_rfl) (by kernel_rfl) (by decide) (by intro _ _ _ h; exact h) ⟨Or.inl ⟨by rfl, ?_⟩, fun _ => rfl⟩ (by assumption) ?_
    rotate_left
    · (intro w; go_simp; (try with_reducible rfl))
    try simp only [Act.put, List.setIfInBounds_toArray, List.set_cons_zero, List.set_cons_succ]
    refine anyS_takeW (i := 12) (v := ?_) (by (simp only [List.getElem?_toArray, List.getElem?_cons_zero, List.getElem?_cons_succ]); exact rfl) (by kernel_rfl) (by kernel_rfl) (by kernel_rfl) (by decide) (by intro _ _ _ h; exact h) ⟨Or.inl ⟨by rfl, ?_⟩, fun _ => rfl⟩ (by assumption) ?_
    rotate_left
    · (intro w; go_simp; (try with_reducible rfl))
    try simp only [Act.put, List.setIfInBounds_toArray, List.set_cons_zero, List.set_cons_succ]
    refine anyS_takeW (i := 13) (v := ?_) (by (simp only [List.getElem?_toArray, List.getElem?_cons_zero, List.getElem?_cons_succ]); exact rfl) (by kernel_rfl) (by kernel_rfl) (by kernel_rfl) (by decide) (by intro _ _ _ h; exact h) ⟨Or.inl ⟨by rfl, ?_⟩, fun _ => rfl⟩ (by assumption) ?_
    rotate_left
    · (intro w; go_simp; (try with_reducible rfl))
    try simp only [Act.put, List.setIfInBounds_toArray, List.set_cons_zero, List.set_cons_succ]
    refine anyS_take (i := 14) (v := ?_) (by (simp only [List.getElem?_toArray, List.getElem?_cons_zero, List.getElem?_cons_succ]); exact rfl) (by kernel_rfl) (by kernel_rfl) (by kernel_rfl) (by kernel_rfl) (by decide) (by intro _ _ _ h; exact h) (Or.inl ⟨by rfl, ?_⟩) (by assumption) ?_
    rotate_left
    · (intro w hSw; (try dsimp only at hSw); go_simp; (try with_reducible rfl))
    try simp only [Act.put, List.setIfInBounds_toArray, List.set_cons_zero, List.set_cons_succ]
    refine anyS_takeW (i := 15) (v := ?_) (by (simp only [List.getElem?_toArray, List.getElem?_cons_zero, List.getElem?_cons_succ]); exact rfl) (by kernel_rfl) (by kernel_rfl) (by kernel_rfl) (by decide) (by intro _ _ _ h; exact h) ⟨Or.inl ⟨by rfl, ?_⟩, fun _ => rfl⟩ (by assumption) ?_
    rotate_left
    · (intro w; go_simp; (try with_reducible rfl))
    try simp only [Act.put, List.setIfInBounds_toArray, List.set_cons_zero, List.set_cons_succ]
    refine anyS_takeW (i := 16) (v := ?_) (by (simp only [List.getElem?_toArray, List.getElem?_cons_zero, List.getElem?_cons_succ]); exact rfl) (by kernel_rfl) (by kernel_rfl) (by kernel_rfl) (by decide) (by intro _ _ _ h; exact h) ⟨Or.inl ⟨by rfl, ?_⟩, fun _ => rfl⟩ (by assumption) ?_
    rotate_left
    · (intro w; go_simp; (try with_reducible rfl))
    try simp only [Act.put, List.setIfInBounds_toArray, List.set_cons_zero, List.set_cons_succ]
    refine anyS_takeW (i := 17) (v := ?_) (by (simp only [List.getElem?_toArray, List.getElem?_cons_zero, List.getElem?_cons_succ]); exact rfl) (by kernel_rfl) (by kernel_rfl) (by kernel_rfl) (by decide) (by intro _ _ _ h; exact h) ⟨Or.inl ⟨by rfl, ?_⟩, fun _ => rfl⟩ (by assumption) ?_
    rotate_left
    · (intro w; go_simp; (try with_reducible rfl))
    try simp only [Act.put, List.setIfInBounds_toArray, List.set_cons_zero, List.set_cons_succ]
    refine anyS_takeW (i := 18) (v := ?_) (by (simp only [List.getElem?_toArray, List.getElem?_cons_zero, List.getElem?_cons_succ]); exact rfl) (by kernel_rfl) (by kernel_rfl) (by kernel_rfl) (by decide) (by intro _ _ _ h; exact h) ⟨Or.inl ⟨by rfl, ?_⟩, fun _ => rfl⟩ (by assumption) ?_
    rotate_left
    · (intro w; go_simp; (try with_reducible rfl))
    try simp only [Act.put, List.setIfInBounds_toArray, List.set_cons_zero, List.set_cons_succ]
    refine anyS_takeW (i := 19) (v := ?_) (by (simp only [List.getElem?_toArray, List.getElem?_cons_zero, List.getElem?_cons_succ]); exact rfl) (by kernel_rfl) (by kernel_rfl) (by kernel_rfl) (by decide) (by intro _ _ _ h; exact h) ⟨Or.inl ⟨by rfl, ?_⟩, fun _ => rfl⟩ (by assumption) ?_
    rotate_left
    · (intro w; go_simp; (try with_reducible rfl))
    try simp only [Act.put, List.setIfInBounds_toArray, List.set_cons_zero, List.set_cons_succ]
    refine anyS_takeW (i := 20) (v := ?_) (by (simp only [List.getElem?_toArray, List.getElem?_cons_zero, List.getElem?_cons_succ]); exact rfl) (by kernel_rfl) (by kernel_rfl) (by kernel_rfl) (by decide) (by intro _ _ _ h; exact h) ⟨Or.inl ⟨by rfl, ?_⟩, fun _ => rfl⟩ (by assumption) ?_
    rotate_left
    · (intro w; go_simp; (try with_reducible rfl))
    try simp only [Act.put, List.setIfInBounds_toArray, List.set_cons_zero, List.set_cons_succ]
    refine anyS_takeW (i := 21) (v := ?_) (by (simp only [List.getElem?_toArray, List.getElem?_cons_zero, List.getElem?_cons_succ]); exact rfl) (by kernel_rfl) (by kernel_rfl) (by kernel_rfl) (by decide) (by intro _ _ _ h; exact h) ⟨Or.inl ⟨by rfl, ?_⟩, fun _ => rfl⟩ (by assumption) ?_
    rotate_left
    · (intro w; go_simp; (try with_reducible rfl))
    try simp only [Act.put, List.setIfInBounds_toArray, List.set_cons_zero, List.set_cons_succ]
    refine anyS_exit (e := 22) (by kernel_rfl) (by (simp only [List.getElem?_toArray, List.getElem?_cons_zero, List.getElem?_cons_succ]); exact rfl) (by rfl) (fun K hK => ?_)
    go_simp
    refine hK.out _ _ ?_
    clear hK K
    try simp only [Act.put, List.setIfInBounds_toArray, List.set_cons_zero, List.set_cons_succ]
    refine wpAnyIn_take (i := 23) (v := ?_) rfl (by (simp only [List.getElem?_toArray, List.getElem?_cons_zero, List.getElem?_cons_succ]); exact rfl) (by kernel_rfl) (by kernel_rfl) (by kernel_rfl) (by intro _ _ _ h; exact h) ⟨Or.inl ⟨by rfl, ?_⟩, fun _ => rfl⟩ ?_
    rotate_left
    · (intro w; go_simp; (try with_reducible rfl))
    try simp only [Act.put, List.setIfInBounds_toArray, List.set_cons_zero, List.set_cons_succ]
    refine wpAnyIn_take (i := 24) (v := ?_) rfl (by (simp only [List.getElem?_toArray, List.getElem?_cons_zero, List.getElem?_cons_succ]); exact rfl) (by kernel_rfl) (by kernel_rfl) (by kernel_rfl) (by intro _ _ _ h; exact h) ⟨Or.inl ⟨by rfl, ?_⟩, fun _ => rfl⟩ ?_
    rotate_left
    · (intro w; go_simp; (try with_reducible rfl))
    try simp only [Act.put, List.setIfInBounds_toArray, List.set_cons_zero, List.set_cons_succ]
    refine in_only (i := 25) (by kernel_rfl) (by (simp only [List.getElem?_toArray, List.getElem?_cons_zero, List.getElem?_cons_succ]); exact rfl) (by rfl) (fun K hK => ?_)
    go_simp
    refine hK.out _ _ ?_
    clear hK K
    try simp only [Act.put, List.setIfInBounds_toArray, List.set_cons_zero, List.set_cons_succ]
    refine wpAnyIn_done (by kernel_rfl) ?_ _
    go_wp2_with fail
    go_meet
    exact ⟨_, HS3.out, ⟨rfl, rfl, rfl⟩, HB3.out⟩
    -->
  obtain ⟨L3, hS3, ⟨hL3k, hL3v, hL3c⟩, hb8⟩ := hcut
  obtain ⟨wd, rfl⟩ : ∃ wq : World, wq = wc := ⟨_, rfl⟩
  clear hk1 hk2 hv1 hv2 hk3 hv3
  have hP := hS3.th.page N3.own
  obtain ⟨A0, hA0⟩ : ∃ v, v = sl P.gk P.ks.length P.ck := ⟨_, rfl⟩
  obtain ⟨A1, hA1⟩ : ∃ v, v = sl P.gv P.vs.length P.cv := ⟨_, rfl⟩
  obtain ⟨A2, hA2⟩ : ∃ v, v = sl P.gc P.kids.length P.cc := ⟨_, rfl⟩
  have hBp : Blk wd p 82 #[A0, A1, A2] := by rw [hA0, hA1, hA2]; exact hP.blk
  have hpn' : p ∉ P.blocks := fun hm => by
    rw [Pg.mem_blocks] at hm
    rcases hm with ⟨hc, rfl⟩ | ⟨hc, rfl⟩ | ⟨hc, rfl⟩
    · exact hP.far.1 hc (by simp)
    · exact hP.far.2.1 hc (by simp)
    · exact hP.far.2.2 hc (by simp)
  have HS7 := Lib.hid (show ∀ W, Touch wd W P.blocks → (W.cell? ⟨p, 0, none⟩ = some A0 ∧ W.cell? ⟨p, 1, none⟩ = some A1 ∧ W.cell? ⟨p, 2, none⟩ = some A2 ∧ W.cell? ⟨b8, 0, none⟩ = some (.int .i64 q.t) ∧ W.cell? ⟨b8, 1, none⟩ = some (.int .i64 q.s) ∧ Touch wd W P.blocks) from fun W k =>
    ⟨(hBp.touch k hpn').cell 0, (hBp.touch k hpn').cell 1, (hBp.touch k hpn').cell 2, (hb8.touch k (fun hm => HB8n.out (List.mem_cons_of_mem _ hm))).cell 0, (hb8.touch k (fun hm => HB8n.out (List.mem_cons_of_mem _ hm))).cell 1, k⟩)
  have HBP := Lib.hid (show ∀ W, Touch wd W P.blocks → Blk W p 82 #[A0, A1, A2] from fun W k => hBp.touch k hpn')
  have HC1 := Lib.hid (show ∀ W, RowAt W P.gk 24 2 P.ks.length P.ck (kcells P.ks) → Calls Try.prog 47 #[A0, .int .i64 i, .agg #[.int .i64 q.t, .int .i64 q.s]] W (PutAt W P.gk P.ck 24 2 (P.ks.length + 1) (kcells (insAt P.ks i q))) from fun W h => by
    rw [hA0]; exact putK_any _ _ _ i q W h hi (by omega))
  have HC2 := Lib.hid (show ∀ W, RowAt W P.gv 3 1 P.vs.length P.cv (vcells P.vs) → Calls Try.prog 48 #[A1, .int .i64 i, .int .i64 qv] W (PutAt W P.gv P.cv 3 1 (P.vs.length + 1) (vcells (insAt P.vs i qv))) from fun W h => by
    rw [hA1]; exact putI_any _ _ _ i qv W h (by omega) (by omega))
  have HC3 := Lib.hid (show ∀ W, RowAt W P.gc 69 1 P.kids.length P.cc (pcells P.kids) → Calls Try.prog 54 #[A2, .int .i64 ((i : Int) + 1), .pointer (some ⟨rp, 0, none⟩)] W (PutAt W P.gc P.cc 69 1 (P.kids.length + 1) (pcells (insAt P.kids (i + 1) rp))) from fun W h => by
    rw [hA2]; exact putP_any _ _ _ (i + 1) rp W h (by omega) (by omega))
  have HP := Lib.hid hP
  have HS3 := Lib.hid hS3
  have HF3 := Lib.hid (And.intro hL3k (And.intro hL3v hL3c))
  have hwi : IntKind.i64.wrap ((i : Int) + 1) = (i : Int) + 1 := IntWalk.i64_in _ (by omega)
  clear hk hki hpv hP hA0 hA1 hA2 hBp hpn' hS3 hL3k hL3v hL3c hb8
  go_upto_region 7 with fail
  refine (wpIn_wide (n := 0)).1 ?_
  refine anyS_region (S := (fun W => W.cell? ⟨p, 0, none⟩ = some A0 ∧ W.cell? ⟨p, 1, none⟩ = some A1 ∧ W.cell? ⟨p, 2, none⟩ = some A2 ∧ W.cell? ⟨b8, 0, none⟩ = some (.int .i64 q.t) ∧ W.cell? ⟨b8, 1, none⟩ = some (.int .i64 q.s) ∧ Touch wd W P.blocks)) 27 (by kernel_rfl) ?_ (fun hHeld => ?_)
  · exact HS7.out _ (Touch.drew _ _)
  refine anyS_takeW (i := 0) (v := ?_) (by (simp only [List.getElem?_toArray, List.getElem?_cons_zero]); exact rfl) (by kernel_rfl) (by kernel_rfl) (by kernel_rfl) (by decide) (by intro _ _ _ h; exact h) ⟨Or.inl ⟨by rfl, ?_⟩, fun _ => rfl⟩ (by assumption) ?_
  rotate_left
  · (intro w; go_simp; (try with_reducible rfl))
  try simp only [Act.put, List.setIfInBounds_toArray, List.set_cons_zero, List.set_cons_succ]
  refine anyS_takeW (i := 1) (v := ?_) (by (simp only [List.getElem?_toArray, List.getElem?_cons_zero, List.getElem?_cons_succ]); exact rfl) (by kernel_rfl) (by kernel_rfl) (by kernel_rfl) (by decide) (by intro _ _ _ h; exact h) ⟨Or.inl ⟨by rfl, ?_⟩, fun _ => rfl⟩ (by assumption) ?_
  rotate_left
  · (intro w; go_simp; (try with_reducible rfl))
  try simp only [Act.put, List.setIfInBounds_toArray, List.set_cons_zero, List.set_cons_succ]
  refine anyS_takeW (i := 2) (v := ?_) (by (simp only [List.getElem?_toArray, List.getElem?_cons_zero, List.getElem?_cons_succ]); exact rfl) (by kernel_rfl) (by kernel_rfl) (by kernel_rfl) (by decide) (by intro _ _ _ h; exact h) ⟨Or.inl ⟨by rfl, ?_⟩, fun _ => rfl⟩ (by assumption) ?_
  rotate_left
  · (intro w; go_simp; (try with_reducible rfl))
  try simp only [Act.put, List.setIfInBounds_toArray, List.set_cons_zero, List.set_cons_succ]
  refine anyS_takeW (i := 3) (v := ?_) (by (simp only [List.getElem?_toArray, List.getElem?_cons_zero, List.getElem?_cons_succ]); exact rfl) (by kernel_rfl) (by kernel_rfl) (by kernel_rfl) (by decide) (by intro _ _ _ h; exact h) ⟨Or.inl ⟨by rfl, ?_⟩, fun _ => rfl⟩ (by assumption) ?_
  rotate_left
  · (intro w; go_simp; (try with_reducible rfl))
  try simp only [Act.put, List.setIfInBounds_toArray, List.set_cons_zero, List.set_cons_succ]
  refine anyS_take (i := 4) (v := ?_) (by (simp only [List.getElem?_toArray, List.getElem?_cons_zero, List.getElem?_cons_succ]); exact rfl) (by kernel_rfl) (by kernel_rfl) (by kernel_rfl) (by kernel_rfl) (by decide) (by intro _ _ _ h; exact h) (Or.inl ⟨by rfl, ?_⟩) (by assumption) ?_
  rotate_left
  · (intro w hSw; (try dsimp only at hSw); go_simp; (try with_reducible rfl))
  try simp only [Act.put, List.setIfInBounds_toArray, List.set_cons_zero, List.set_cons_succ]
  refine anyS_take (i := 5) (v := ?_) (by (simp only [List.getElem?_toArray, List.getElem?_cons_zero, List.getElem?_cons_succ]); exact rfl) (by kernel_rfl) (by kernel_rfl) (by kernel_rfl) (by kernel_rfl) (by decide) (by intro _ _ _ h; exact h) (Or.inl ⟨by rfl, ?_⟩) (by assumption) ?_
  rotate_left
  · (intro w hSw; (try dsimp only at hSw); go_simp; (try with_reducible rfl))
  try simp only [Act.put, List.setIfInBounds_toArray, List.set_cons_zero, List.set_cons_succ]
  refine anyS_take (i := 6) (v := ?_) (by (simp only [List.getElem?_toArray, List.getElem?_cons_zero, List.getElem?_cons_succ]); exact rfl) (by kernel_rfl) (by kernel_rfl) (by kernel_rfl) (by kernel_rfl) (by decide) (by intro _ _ _ h; exact h) (Or.inl ⟨by rfl, ?_⟩) (by assumption) ?_
  rotate_left
  · (intro w hSw; (try dsimp only at hSw); go_simp; (try with_reducible rfl))
  try simp only [Act.put, List.setIfInBounds_toArray, List.set_cons_zero, List.set_cons_succ]
  refine anyS_take (i := 7) (v := ?_) (by (simp only [List.getElem?_toArray, List.getElem?_cons_zero, List.getElem?_cons_succ]); exact rfl) (by kernel_rfl) (by kernel_rfl) (by kernel_rfl) (by kernel_rfl) (by decide) (by intro _ _ _ h; exact h) (Or.inl ⟨by rfl, ?_⟩) (by assumption) ?_
  rotate_left
  · (intro w hSw; (try dsimp only at hSw); go_simp; (try with_reducible rfl))
  try simp only [Act.put, List.setIfInBounds_toArray, List.set_cons_zero, List.set_cons_succ]
  refine anyS_take (i := 8) (v := ?_) (by (simp only [List.getElem?_toArray, List.getElem?_cons_zero, List.getElem?_cons_succ]); exact rfl) (by kernel_rfl) (by kernel_rfl) (by kernel_rfl) (by kernel_rfl) (by decide) (by intro _ _ _ h; exact h) (Or.inl ⟨by rfl, ?_⟩) (by assumption) ?_
  rotate_left
  · (intro w hSw; (try dsimp only at hSw); go_simp; (try with_reducible rfl))
  try simp only [Act.put, List.setIfInBounds_toArray, List.set_cons_zero, List.set_cons_succ]
  refine anyS_take (i := 10) (v := ?_) (by (simp only [List.getElem?_toArray, List.getElem?_cons_zero, List.getElem?_cons_succ]); exact rfl) (by kernel_rfl) (by kernel_rfl) (by kernel_rfl) (by kernel_rfl) (by decide) (by intro _ _ _ h; exact h) (Or.inl ⟨by rfl, ?_⟩) (by assumption) ?_
  rotate_left
  · (intro w hSw; (try dsimp only at hSw); go_simp; (try with_reducible rfl))
  try simp only [Act.put, List.setIfInBounds_toArray, List.set_cons_zero, List.set_cons_succ]
  refine anyS_take (i := 11) (v := ?_) (by (simp only [List.getElem?_toArray, List.getElem?_cons_zero, List.getElem?_cons_succ]); exact rfl) (by kernel_rfl) (by kernel_rfl) (by kernel_rfl) (by kernel_rfl) (by decide) (by intro _ _ _ h; exact h) (Or.inl ⟨by rfl, ?_⟩) (by assumption) ?_
  rotate_left
  · (intro w hSw; (try dsimp only at hSw); go_simp; (try with_reducible rfl))
  try simp only [Act.put, List.setIfInBounds_toArray, List.set_cons_zero, List.set_cons_succ]
  refine anyS_take (i := 12) (v := ?_) (by (simp only [List.getElem?_toArray, List.getElem?_cons_zero, List.getElem?_cons_succ]); exact rfl) (by kernel_rfl) (by kernel_rfl) (by kernel_rfl) (by kernel_rfl) (by decide) (by intro _ _ _ h; exact h) (Or.inl ⟨by rfl, ?_⟩) (by assumption) ?_
  rotate_left
  · (intro w hSw; (try dsimp only at hSw); go_simp; (try with_reducible rfl))
  try simp only [Act.put, List.setIfInBounds_toArray, List.set_cons_zero, List.set_cons_succ]
  refine anyS_take (i := 13) (v := ?_) (by (simp only [List.getElem?_toArray, List.getElem?_cons_zero, List.getElem?_cons_succ]); exact rfl) (by kernel_rfl) (by kernel_rfl) (by kernel_rfl) (by kernel_rfl) (by decide) (by intro _ _ _ h; exact h) (Or.inl ⟨by rfl, ?_⟩) (by assumption) ?_
  rotate_left
  · (intro w hSw; (try dsimp only at hSw); go_simp; (try with_reducible rfl))
  try simp only [Act.put, List.setIfInBounds_toArray, List.set_cons_zero, List.set_cons_succ]
  refine anyS_take (i := 14) (v := ?_) (by (simp only [List.getElem?_toArray, List.getElem?_cons_zero, List.getElem?_cons_succ]); exact rfl) (by kernel_rfl) (by kernel_rfl) (by kernel_rfl) (by kernel_rfl) (by decide) (by intro _ _ _ h; exact h) (Or.inl ⟨by rfl, ?_⟩) (by assumption) ?_
  rotate_left
  · (intro w hSw; (try dsimp only at hSw); go_simp; (try with_reducible rfl))
  try simp only [Act.put, List.setIfInBounds_toArray, List.set_cons_zero, List.set_cons_succ]
  refine anyS_take (i := 15) (v := ?_) (by (simp only [List.getElem?_toArray, List.getElem?_cons_zero, List.getElem?_cons_succ]); exact rfl) (by kernel_rfl) (by kernel_rfl) (by kernel_rfl) (by kernel_rfl) (by decide) (by intro _ _ _ h; exact h) (Or.inl ⟨by rfl, ?_⟩) (by assumption) ?_
  rotate_left
  · (intro w hSw; (try dsimp only at hSw); go_simp; (try with_reducible rfl))
  try simp only [Act.put, List.setIfInBounds_toArray, List.set_cons_zero, List.set_cons_succ]
  refine anyS_take (i := 17) (v := ?_) (by (simp only [List.getElem?_toArray, List.getElem?_cons_zero, List.getElem?_cons_succ]); exact rfl) (by kernel_rfl) (by kernel_rfl) (by kernel_rfl) (by kernel_rfl) (by decide) (by intro _ _ _ h; exact h) (Or.inl ⟨by rfl, ?_⟩) (by assumption) ?_
  rotate_left
  · (intro w hSw; (try dsimp only at hSw); go_simp; (try with_reducible rfl))
  try simp only [Act.put, List.setIfInBounds_toArray, List.set_cons_zero, List.set_cons_succ]
  refine anyS_take (i := 18) (v := ?_) (by (simp only [List.getElem?_toArray, List.getElem?_cons_zero, List.getElem?_cons_succ]); exact rfl) (by kernel_rfl) (by kernel_rfl) (by kernel_rfl) (by kernel_rfl) (by decide) (by intro _ _ _ h; exact h) (Or.inl ⟨by rfl, ?_⟩) (by assumption) ?_
  rotate_left
  · (intro w hSw; (try dsimp only at hSw); go_simp; (try with_reducible rfl))
  try simp only [Act.put, List.setIfInBounds_toArray, List.set_cons_zero, List.set_cons_succ]
  refine anyS_take (i := 19) (v := ?_) (by (simp only [List.getElem?_toArray, List.getElem?_cons_zero, List.getElem?_cons_succ]); exact rfl) (by kernel_rfl) (by kernel_rfl) (by kernel_rfl) (by kernel_rfl) (by decide) (by intro _ _ _ h; exact h) (Or.inl ⟨by rfl, ?_⟩) (by assumption) ?_
  rotate_left
  · (intro w hSw; (try dsimp only at hSw); go_simp; (try with_reducible rfl))
  try simp only [Act.put, List.setIfInBounds_toArray, List.set_cons_zero, List.set_cons_succ]
  refine anyS_take (i := 20) (v := ?_) (by (simp only [List.getElem?_toArray, List.getElem?_cons_zero, List.getElem?_cons_succ]); exact rfl) (by kernel_rfl) (by kernel_rfl) (by kernel_rfl) (by kernel_rfl) (by decide) (by intro _ _ _ h; exact h) (Or.inl ⟨by rfl, ?_⟩) (by assumption) ?_
  rotate_left
  · (intro w hSw; (try dsimp only at hSw); go_simp; (try with_reducible rfl))
  try simp only [Act.put, List.setIfInBounds_toArray, List.set_cons_zero, List.set_cons_succ]
  refine anyS_take (i := 21) (v := ?_) (by (simp only [List.getElem?_toArray, List.getElem?_cons_zero, List.getElem?_cons_succ]); exact rfl) (by kernel_rfl) (by kernel_rfl) (by kernel_rfl) (by kernel_rfl) (by decide) (by intro _ _ _ h; exact h) (Or.inl ⟨by rfl, ?_⟩) (by assumption) ?_
  rotate_left
  · (intro w hSw; (try dsimp only at hSw); go_simp; (try with_reducible rfl))
  try simp only [Act.put, List.setIfInBounds_toArray, List.set_cons_zero, List.set_cons_succ]
  refine anyS_take (i := 22) (v := ?_) (by (simp only [List.getElem?_toArray, List.getElem?_cons_zero, List.getElem?_cons_succ]); exact rfl) (by kernel_rfl) (by kernel_rfl) (by kernel_rfl) (by kernel_rfl) (by decide) (by intro _ _ _ h; exact h) (Or.inl ⟨by rfl, ?_⟩) (by assumption) ?_
  rotate_left
  · (intro w hSw; (try dsimp only at hSw); go_simp; (try with_reducible rfl))
  try simp only [Act.put, List.setIfInBounds_toArray, List.set_cons_zero, List.set_cons_succ]
  refine anyS_take (i := 23) (v := ?_) (by (simp only [List.getElem?_toArray, List.getElem?_cons_zero, List.getElem?_cons_succ]); exact rfl) (by kernel_rfl) (by kernel_rfl) (by kernel_rfl) (by kernel_rfl) (by decide) (by intro _ _ _ h; exact h) (Or.inl ⟨by rfl, ?_⟩) (by assumption) ?_
  rotate_left
  · (intro w hSw; (try dsimp only at hSw); go_simp; (try with_reducible rfl))
  try simp only [Act.put, List.setIfInBounds_toArray, List.set_cons_zero, List.set_cons_succ]
  refine anyS_only (i := 9) (by kernel_rfl) (by decide) (by (simp only [List.getElem?_toArray, List.getElem?_cons_zero, List.getElem?_cons_succ]); exact rfl) (by rfl) (fun K hK => ?_)
  go_simp
  refine ⟨trivial, rfl, ?_⟩
  gi_at_call 47
  refine (callsIn_wide.2 (HC1.out wd.drew HP.out.keys)).mono ?_
  rintro e w1 ⟨g1, c1, rfl, h1⟩
  refine hK.out _ _ ?_ (fun hHeld => ?_)
  · exact HS7.out _ ((Touch.drew _ _).trans (Touch.of_grown h1.2.2.1 _ (fun h => (Pg.mem_blocks _ _).2 (.inl ⟨h, rfl⟩))))
  clear hK K
  try simp only [Act.put, List.setIfInBounds_toArray, List.set_cons_zero, List.set_cons_succ]
  have H1 := Lib.hid (show (RowAt w1 g1 24 2 (P.ks.length + 1) c1 (kcells (insAt P.ks i q)) ∧ 0 < c1 ∧ ((0 < P.ck ∧ g1 = P.gk) ∨ wd.heap.size ≤ g1)) ∧ RowAt w1 P.gv 3 1 P.vs.length P.cv (vcells P.vs) ∧ RowAt w1 P.gc 69 1 P.kids.length P.cc (pcells P.kids) ∧ Touch wd w1 P.blocks from ⟨⟨h1.2.1, h1.1, h1.2.2.2⟩, RowAt.grown_far (w := wd.drew) HP.out.vals HP.out.keys (by decide) h1.2.2.1, RowAt.grown_far (w := wd.drew) HP.out.kids HP.out.keys (by decide) h1.2.2.1, hHeld.2.2.2.2.2⟩)
  clear h1
  refine anyS_only (i := 16) (by kernel_rfl) (by decide) (by (simp only [List.getElem?_toArray, List.getElem?_cons_zero, List.getElem?_cons_succ]); exact rfl) (by rfl) (fun K hK => ?_)
  go_simp
  refine ⟨trivial, rfl, ?_⟩
  gi_at_call 48
  refine (callsIn_wide.2 (HC2.out w1 H1.out.2.1)).mono ?_
  rintro e w2 ⟨g2, c2, rfl, h2⟩
  refine hK.out _ _ ?_ (fun hHeld => ?_)
  · exact HS7.out _ (H1.out.2.2.2.trans (Touch.of_grown h2.2.2.1 _ (fun h => (Pg.mem_blocks _ _).2 (.inr (.inl ⟨h, rfl⟩)))))
  clear hK K
  try simp only [Act.put, List.setIfInBounds_toArray, List.set_cons_zero, List.set_cons_succ]
  have H2 := Lib.hid (show (RowAt w2 g1 24 2 (P.ks.length + 1) c1 (kcells (insAt P.ks i q)) ∧ 0 < c1 ∧ ((0 < P.ck ∧ g1 = P.gk) ∨ wd.heap.size ≤ g1)) ∧ (RowAt w2 g2 3 1 (P.vs.length + 1) c2 (vcells (insAt P.vs i qv)) ∧ 0 < c2 ∧ ((0 < P.cv ∧ g2 = P.gv) ∨ wd.heap.size ≤ g2)) ∧ RowAt w2 P.gc 69 1 P.kids.length P.cc (pcells P.kids) ∧ Touch wd w2 P.blocks from ⟨⟨H1.out.1.1.grown_far H1.out.2.1 (by decide) h2.2.2.1, H1.out.1.2⟩, ⟨h2.2.1, h2.1, h2.2.2.2.imp id (fun h => Nat.le_trans H1.out.2.2.2.size h)⟩, H1.out.2.2.1.grown_far H1.out.2.1 (by decide) h2.2.2.1, hHeld.2.2.2.2.2⟩)
  clear h2 H1
  refine anyS_only (i := 24) (by kernel_rfl) (by decide) (by (simp only [List.getElem?_toArray, List.getElem?_cons_zero, List.getElem?_cons_succ]); exact rfl) (by rfl) (fun K hK => ?_)
  go_simp
  refine ⟨trivial, rfl, ?_⟩
  gi_at_call 54
  refine (callsIn_wide.2 (HC3.out w2 H2.out.2.2.1)).mono ?_
  rintro e w3 ⟨g3, c3, rfl, h3⟩
  refine hK.out _ _ ?_ (fun hHeld => ?_)
  · exact HS7.out _ (H2.out.2.2.2.trans (Touch.of_grown h3.2.2.1 _ (fun h => (Pg.mem_blocks _ _).2 (.inr (.inr ⟨h, rfl⟩)))))
  clear hK K
  try simp only [Act.put, List.setIfInBounds_toArray, List.set_cons_zero, List.set_cons_succ]
  have H3 := Lib.hid (show (RowAt w3 g1 24 2 (P.ks.length + 1) c1 (kcells (insAt P.ks i q)) ∧ 0 < c1 ∧ ((0 < P.ck ∧ g1 = P.gk) ∨ wd.heap.size ≤ g1)) ∧ (RowAt w3 g2 3 1 (P.vs.length + 1) c2 (vcells (insAt P.vs i qv)) ∧ 0 < c2 ∧ ((0 < P.cv ∧ g2 = P.gv) ∨ wd.heap.size ≤ g2)) ∧ (RowAt w3 g3 69 1 (P.kids.length + 1) c3 (pcells (insAt P.kids (i + 1) rp)) ∧ 0 < c3 ∧ ((0 < P.cc ∧ g3 = P.gc) ∨ wd.heap.size ≤ g3)) from ⟨⟨H2.out.1.1.grown_far H2.out.2.2.1 (by decide) h3.2.2.1, H2.out.1.2⟩, ⟨H2.out.2.1.1.grown_far H2.out.2.2.1 (by decide) h3.2.2.1, H2.out.2.1.2⟩, ⟨h3.2.1, h3.1, h3.2.2.2.imp id (fun h => Nat.le_trans H2.out.2.2.2.size h)⟩⟩)
  clear h3 H2
  refine anyS_take (i := 25) (v := ?_) (by (simp only [List.getElem?_toArray, List.getElem?_cons_zero, List.getElem?_cons_succ]); exact rfl) (by kernel_rfl) (by kernel_rfl) (by kernel_rfl) (by kernel_rfl) (by decide) (by intro _ _ _ h; exact h) (Or.inl ⟨by rfl, ?_⟩) (by assumption) ?_
  rotate_left
  · (intro w hSw; (try dsimp only at hSw); go_simp; (try with_reducible rfl))
  try simp only [Act.put, List.setIfInBounds_toArray, List.set_cons_zero, List.set_cons_succ]
  refine anyS_take (i := 26) (v := ?_) (by (simp only [List.getElem?_toArray, List.getElem?_cons_zero, List.getElem?_cons_succ]); exact rfl) (by kernel_rfl) (by kernel_rfl) (by kernel_rfl) (by kernel_rfl) (by decide) (by intro _ _ _ h; exact h) (Or.inl ⟨by rfl, ?_⟩) (by assumption) ?_
  rotate_left
  · (intro w hSw; (try dsimp only at hSw); go_simp; (try with_reducible rfl))
  try simp only [Act.put, List.setIfInBounds_toArray, List.set_cons_zero, List.set_cons_succ]
  refine anyS_exit (e := 27) (by kernel_rfl) (by (simp only [List.getElem?_toArray, List.getElem?_cons_zero, List.getElem?_cons_succ]); exact rfl) (by rfl) (fun K hK => ?_)
  have c0 := hHeld.1
  have c1' := hHeld.2.1
  have c2' := hHeld.2.2.1
  have f0 := (HBP.out _ hHeld.2.2.2.2.2).frozen 0
  have f1 := (HBP.out _ hHeld.2.2.2.2.2).frozen 1
  have f2 := (HBP.out _ hHeld.2.2.2.2.2).frozen 2
  have HT := Lib.hid hHeld.2.2.2.2.2
  clear hHeld
  go_simp
  refine hK.out _ _ ?_
  clear hK K
  try simp only [Act.put, List.setIfInBounds_toArray, List.set_cons_zero, List.set_cons_succ]
  refine wpAnyIn_take (i := 28) (v := ?_) rfl (by (simp only [List.getElem?_toArray, List.getElem?_cons_zero, List.getElem?_cons_succ]); exact rfl) (by kernel_rfl) (by kernel_rfl) (by kernel_rfl) (by intro _ _ _ h; exact h) ⟨Or.inl ⟨by rfl, ?_⟩, fun _ => rfl⟩ ?_
  rotate_left
  · (intro w; go_simp; (try with_reducible rfl))
  try simp only [Act.put, List.setIfInBounds_toArray, List.set_cons_zero, List.set_cons_succ]
  refine wpAnyIn_take (i := 29) (v := ?_) rfl (by (simp only [List.getElem?_toArray, List.getElem?_cons_zero, List.getElem?_cons_succ]); exact rfl) (by kernel_rfl) (by kernel_rfl) (by kernel_rfl) (by intro _ _ _ h; exact h) ⟨Or.inl ⟨by rfl, ?_⟩, fun _ => rfl⟩ ?_
  rotate_left
  · (intro w; go_simp; (try with_reducible rfl))
  try simp only [Act.put, List.setIfInBounds_toArray, List.set_cons_zero, List.set_cons_succ]
  refine in_only (i := 30) (by kernel_rfl) (by (simp only [List.getElem?_toArray, List.getElem?_cons_zero, List.getElem?_cons_succ]); exact rfl) (by rfl) (fun K hK => ?_)
  go_simp
  refine hK.out _ _ ?_
  clear hK K
  try simp only [Act.put, List.setIfInBounds_toArray, List.set_cons_zero, List.set_cons_succ]
  refine wpAnyIn_take (i := 31) (v := ?_) rfl (by (simp only [List.getElem?_toArray, List.getElem?_cons_zero, List.getElem?_cons_succ]); exact rfl) (by kernel_rfl) (by kernel_rfl) (by kernel_rfl) (by intro _ _ _ h; exact h) ⟨Or.inl ⟨by rfl, ?_⟩, fun _ => rfl⟩ ?_
  rotate_left
  · (intro w; go_simp; (try with_reducible rfl))
  try simp only [Act.put, List.setIfInBounds_toArray, List.set_cons_zero, List.set_cons_succ]
  refine wpAnyIn_take (i := 32) (v := ?_) rfl (by (simp only [List.getElem?_toArray, List.getElem?_cons_zero, List.getElem?_cons_succ]); exact rfl) (by kernel_rfl) (by kernel_rfl) (by kernel_rfl) (by intro _ _ _ h; exact h) ⟨Or.inl ⟨by rfl, ?_⟩, fun _ => rfl⟩ ?_
  rotate_left
  · (intro w; go_simp; (try with_reducible rfl))
  try simp only [Act.put, List.setIfInBounds_toArray, List.set_cons_zero, List.set_cons_succ]
  refine in_only (i := 33) (by kernel_rfl) (by (simp only [List.getElem?_toArray, List.getElem?_cons_zero, List.getElem?_cons_succ]); exact rfl) (by rfl) (fun K hK => ?_)
  go_simp
  refine hK.out _ _ ?_
  clear hK K
  try simp only [Act.put, List.setIfInBounds_toArray, List.set_cons_zero, List.set_cons_succ]
  refine wpAnyIn_done (by kernel_rfl) ?_ _
  go_wp2_with fail
  go_end0
  have e1 := insAt_len P.ks i q
  have e2 := insAt_len P.vs i qv
  have e3 := insAt_len P.kids (i + 1) rp
  obtain ⟨k1, k2, k3⟩ := H3.out
  have hX := page_three (HBP.out _ HT.out) (ks := insAt P.ks i q) (vs := insAt P.vs i qv) (kids := insAt P.kids (i + 1) rp) (by rw [e1]; exact k1.1) (by rw [e2]; exact k2.1) (by rw [e3]; exact k3.1) k1.2.1 k2.2.1 k3.2.1
  rw [e1, e2, e3] at hX
  have hS := HS3.out.turnP hB ((HT.out.mono (fun x hx => List.mem_cons_of_mem _ hx)).trans (((Touch.set _ ⟨p, 0, none⟩ _ _ (by simp)).trans (Touch.set _ ⟨p, 1, none⟩ _ _ (by simp))).trans (Touch.set _ ⟨p, 2, none⟩ _ _ (by simp)))) hX (fun _ => k1.2.2) (fun _ => k2.2.2) (fun _ => k3.2.2)
  obtain ⟨h1, h2, h3⟩ := HQ.out
  have hF := HF.out
  have hF3 := HF3.out
  exact ⟨rfl, rp, ⟨insAt P.ks i q, insAt P.vs i qv, insAt P.kids (i + 1) rp, g1, g2, g3, c1, c2, c3⟩, L3, R2, hrp, hn1, hn2, hS, ⟨by rw [← h2], by rw [← h3], rfl⟩, ⟨by rw [hF3.1, hF.1.1, h1], by rw [hF3.2.1, hF.1.2.1, h1], by rw [hF3.2.2, hF.1.2.2]⟩, hF.2⟩
end Go.Proofs.Ytmmikolcipcldaa
