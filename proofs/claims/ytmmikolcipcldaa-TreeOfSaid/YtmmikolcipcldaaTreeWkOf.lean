/-
  What is proved here: the document's answer for pages that are given by number: their entries and how deep they are, or an error (the document's Of). Conditions: each theorem's own.
-/
import Derived.Test.YtmmikolcipcldaaTreeWkPage
import Derived.Deep.CutBlock
import Derived.Deep.QuietTactic
import Derived.BigQuiet
namespace Go.Proofs.Ytmmikolcipcldaa
open Go.RowKit Go.Deep

/-- do the first so many entries rise? -/
def upTo (es : List En) (k : Nat) : Bool := (List.range (k - 1)).all (fun j => bel (es.getD j e0).1 (es.getD (j + 1) e0).1)
theorem upTo_one (es : List En) {k : Nat} (h : k ≤ 1) : upTo es k = true := by unfold upTo; rw [show k - 1 = 0 by omega]; rfl
theorem upTo_succ (es : List En) (k : Nat) : upTo es (k + 2) = (upTo es (k + 1) && bel (es.getD k e0).1 (es.getD (k + 1) e0).1) := by
  unfold upTo
  rw [show k + 2 - 1 = k + 1 by omega, show k + 1 - 1 = k by omega, List.range_succ, List.all_append]
  simp
theorem upTo_all {es : List En} : upTo es es.length = true ↔ Up es := by
  unfold upTo
  rw [List.all_eq_true]
  have key : (∀ x ∈ List.range (es.length - 1), bel (es.getD x e0).1 (es.getD (x + 1) e0).1 = true) ↔ ∀ j, j + 1 < es.length → bel (es.getD j e0).1 (es.getD (j + 1) e0).1 = true := by
    constructor
    · intro h j hj
      exact h j (List.mem_range.2 (by omega))
    · intro h x hx
      exact h x (by have := List.mem_range.1 hx; omega)
  rw [key]
  clear key
  constructor
  · intro h
    induction es with
    | nil => exact List.Pairwise.nil
    | cons x es ih =>
      have h1 := ih (fun j hj => by have := h (j + 1) (by simpa using hj); simpa using this)
      refine List.pairwise_cons.2 ⟨fun y hy => ?_, h1⟩
      cases es with
      | nil => cases hy
      | cons z es =>
        have h0 : bel x.1 z.1 = true := by have := h 0 (by simp); simpa using this
        rcases List.mem_cons.1 hy with rfl | hy
        · exact h0
        · exact bel_trans h0 ((List.pairwise_cons.1 h1).1 y hy)
  · intro h j hj
    have := List.pairwise_iff_getElem.1 h j (j + 1) (by omega) (by omega) (by omega)
    rw [List.getD_eq_getElem?_getD, List.getD_eq_getElem?_getD, List.getElem?_eq_getElem (by omega), List.getElem?_eq_getElem hj]
    exact this
theorem rof_empty {d : Nat} (A : Option Addr) (c : Nat) (w : World) (hd2 : 2 ≤ d) (hd : d ≤ 16) :
    Calls Try.prog 24 #[.int .i64 d, .slice A 0 c] w fun e w' => e = .returned (.tuple #[.slice none 0 0, .int .i64 0, .int .i64 0]) ∧ w = w' := by
  have h1 : ¬ (d : Int) < 2 := by omega
  have h2 : ¬ (16 : Int) < (d : Int) := by omega
  go_enter Try.func24, Try.ntmps24
  go_wp2_with fail
  refine bodyPost_ret (v := .tuple #[.slice none 0 0, .int .i64 0, .int .i64 0]) ?_ rfl ⟨rfl, rfl⟩
  simp [results, Try.results24, go_sem]
theorem rof_range {d : Int} (A : Option Addr) (n c : Nat) (w : World) (hd : d < 2 ∨ 16 < d) :
    Calls Try.prog 24 #[.int .i64 d, .slice A n c] w fun e w' => e = .returned (.tuple #[.slice none 0 0, .int .i64 0, .int .i64 3]) ∧ w = w' := by
  by_cases h1 : d < 2
  · clear hd
    go_enter Try.func24, Try.ntmps24
    go_wp2_with fail
    refine bodyPost_ret (v := .tuple #[.slice none 0 0, .int .i64 0, .int .i64 3]) ?_ rfl ⟨rfl, rfl⟩
    simp [results, Try.results24, go_sem]
  · have h2 : (16 : Int) < d := by omega
    clear hd
    go_enter Try.func24, Try.ntmps24
    go_wp2_with fail
    refine bodyPost_ret (v := .tuple #[.slice none 0 0, .int .i64 0, .int .i64 3]) ?_ rfl ⟨rfl, rfl⟩
    simp [results, Try.results24, go_sem]
/-- what the document's Of answers. -/
def ROut (d : Nat) (l : List NdR) (w : World) (e : Ending) (w' : World) : Prop := Below w.heap.size w w' ∧
  ((∃ r A c, vis l d (l.length + 1) 0 1 (List.replicate l.length false) 0 = some r ∧ ofE d l = some r.es ∧ e = .returned (.tuple #[.slice A r.es.length c, .int .i64 r.leaves, .int .i64 0]) ∧ OwnE w.heap.size w' (.slice A r.es.length c) r.es) ∨
   (ofE d l = none ∧ e = .returned (.tuple #[.slice none 0 0, .int .i64 0, .int .i64 4])))

set_option maxRecDepth 100000 in
set_option maxHeartbeats 4000000 in
theorem rof_any {d : Nat} {v : Value} {l : List NdR} {w : World} (hd2 : 2 ≤ d) (hd : d ≤ 16) (hl : 0 < l.length) (hs : l.length ≤ 30000) (hN : NdsAt w v l) (hf : NdsFit l) :
    Calls Try.prog 24 #[.int .i64 d, v] w (ROut d l w) := by
  have HNN := Lib.hid hN
  obtain ⟨A, c, rfl, hc, _⟩ := hN
  have HNUM := Lib.hid (And.intro hd2 (And.intro hd (And.intro hl (And.intro hs hf))))
  have hnl : ((l.length : Int) == 0) = false := beq_eq_false_iff_ne.2 (by omega)
  have hmk := fun W => run_make_bools W l.length hf.1
  have h1 : ¬ (d : Int) < 2 := by omega
  have h2 : ¬ (16 : Int) < (d : Int) := by omega
  clear hd2 hd hl hf hc hs
  go_enter Try.func24, Try.ntmps24
  go_upto_region 6 with fail
  obtain ⟨W2, hW2⟩ : ∃ W2 : World, W2 = (w.alloc (.cells (Array.replicate l.length (Value.bool false)) 4)).alloc (.cells #[.slice A l.length c, .slice (some ⟨w.heap.size, 0, none⟩) l.length l.length, .slice none 0 0, .int .i64 0, .bool true] 87) := ⟨_, rfl⟩
  rw [← hW2]
  have hrow : Blk W2 w.heap.size 4 (Array.replicate l.length (Value.bool false)) := by rw [hW2]; exact (Blk.new w _ _).alloc _
  have hbox : Blk W2 (w.heap.size + 1) 87 #[.slice A l.length c, .slice (some ⟨w.heap.size, 0, none⟩) l.length l.length, .slice none 0 0, .int .i64 0, .bool true] := by rw [hW2]; exact Blk.at_end _ _ _ (by simp)
  have hlow : Below w.heap.size w W2 := by rw [hW2]; exact ((Below.refl _ _).alloc (Nat.le_refl _) _).alloc (by simp) _
  obtain ⟨sb, hsb⟩ : ∃ sb, sb = w.heap.size := ⟨_, rfl⟩
  obtain ⟨b, hb⟩ : ∃ b, b = w.heap.size + 1 := ⟨_, rfl⟩
  have hin : WkIn w b sb (.slice A l.length c) l ⟨List.replicate l.length false, 0, [], true⟩ W2 := by
    rw [← hsb] at hrow
    rw [← hb, ← hsb] at hbox
    refine ⟨⟨⟨.slice none 0 0, ?_, OwnE.nil _ _⟩, ?_⟩, hlow, by omega, by omega, by simp⟩
    · simpa using hbox
    · simpa using hrow
  have hpg := wpage_any HNUM.out.1 HNUM.out.2.1 HNN.out HNUM.out.2.2.2.2 (l.length + 1) ⟨List.replicate l.length false, 0, [], true⟩ W2 0 1 hin rfl (by show unseen (List.replicate l.length false) < _; rw [unseen_new]; omega) (by show 0 + 31 * unseen (List.replicate l.length false) ≤ _; rw [unseen_new]; have := HNUM.out.2.2.2.1; omega) (Nat.le_refl _) (by show 1 + unseen (List.replicate l.length false) ≤ _; rw [unseen_new]; have := HNUM.out.2.2.2.1; omega)
  rw [← hb, ← hsb]
  have HPG := Lib.hid (show Calls Try.prog 38 #[.pointer (some ⟨b, 0, none⟩), .int .i64 0, .int .i64 1, .int .i64 d] W2 (WkOut w b sb (.slice A l.length c) l ⟨List.replicate l.length false, 0, [], true⟩ (vis l d (l.length + 1) 0 1 (List.replicate l.length false) 0) W2) from hpg)
  clear hpg hin hrow hbox hlow hW2 hmk hsb hb
  go_cut [] (fun wz => ∃ S, WkIn w b sb (.slice A l.length c) l S wz ∧ ((∃ r, vis l d (l.length + 1) 0 1 (List.replicate l.length false) 0 = some r ∧ S = ⟨r.seen, r.leaves, r.es, true⟩) ∨ (vis l d (l.length + 1) 0 1 (List.replicate l.length false) 0 = none ∧ S.right = false)))
  case first =>
    go_wp2_with (go_at_call 38; (with_reducible refine Calls.mono HPG.out ?_); rintro e w3 ⟨rfl, _, S', hS, hst⟩)
    go_meet
    exact ⟨S', hS, by simpa using hst⟩
  obtain ⟨S, hS, hst⟩ := hcut
  obtain ⟨wz, rfl⟩ : ∃ wq : World, wq = wc := ⟨_, rfl⟩
  have HST := Lib.hid hst
  have HS := Lib.hid hS
  clear hS hst HPG
  -- are all seen?
  go_upto_block 0 with fail
  go_cut [] (fun wx => WkIn w b sb (.slice A l.length c) l { S with right := S.right && allTo S.seen l.length } wx)
  case first =>
    go_wp2_with fail
    go_loopg [8] l.length (fun g' i wr => ∃ k : Nat, k ≤ l.length ∧ g' = l.length - k ∧ i = .int .i64 k ∧ WkIn w b sb (.slice A l.length c) l { S with right := S.right && allTo S.seen k } wr)
    case atStart => exact ⟨0, Nat.zero_le _, rfl, rfl, by have h : allTo S.seen 0 = true := rfl; rw [h, Bool.and_true]; exact HS.out⟩
    case round =>
      obtain ⟨k, hk, rfl, rfl, hL⟩ := hrel
      by_cases hlt : k < l.length
      · have hls : l.length ≤ 30000 := HNUM.out.2.2.2.1
        have hki : (k : Int) < (l.length : Int) := by omega
        have hk0 : (0 : Int) ≤ (k : Int) := by omega
        obtain ⟨ov, hbk, _⟩ := hL.wk.blk
        obtain ⟨sn, hsn⟩ : ∃ sn, sn = S.seen.length := ⟨_, rfl⟩
        have hsl : S.seen.length = l.length := hL.seen
        have b1 : wr.cell? ⟨b, 1, none⟩ = some (.slice (some ⟨sb, 0, none⟩) sn sn) := by rw [hsn]; exact hbk.cell 1
        have b4 : wr.cell? ⟨b, 4, none⟩ = some (.bool (S.right && allTo S.seen k)) := hbk.cell 4
        have f4 := hbk.frozen 4
        have hks : (k : Int) < (sn : Int) := by omega
        have cs : wr.cell? ⟨sb, k, none⟩ = some (.bool (S.seen.getD k true)) := hL.wk.flag (show k < S.seen.length by omega)
        have hall := allTo_succ (s := S.seen) (i := k) (by omega)
        obtain ⟨q, hq⟩ : ∃ q, q = (S.right && allTo S.seen k) := ⟨_, rfl⟩
        obtain ⟨fl, hfl⟩ : ∃ fl, fl = S.seen.getD k true := ⟨_, rfl⟩
        have hq2 : (S.right && allTo S.seen (k + 1)) = (q && fl) := by rw [hall, hq, hfl, Bool.and_assoc]
        rw [← hq] at b4 hL
        rw [← hfl] at cs
        have HL := Lib.hid hL
        have HQ := Lib.hid hq2
        clear hL hbk hsn hsl hall hq hfl hq2
        cases q
        · go_wp2_with fail
          go_roundg (l.length - (k + 1))
          case measure => omega
          case rel => exact ⟨k + 1, by omega, rfl, by go_num, by rw [HQ.out, Bool.false_and]; exact ⟨(HL.out.wk.setRight false).1, HL.out.low.setCell HL.out.b1 _, HL.out.b1, HL.out.b2, HL.out.seen⟩⟩
        · go_wp2_with fail
          go_roundg (l.length - (k + 1))
          case measure => omega
          case rel => exact ⟨k + 1, by omega, rfl, by go_num, by rw [HQ.out, Bool.true_and]; exact ⟨(HL.out.wk.setRight fl).1, HL.out.low.setCell HL.out.b1 _, HL.out.b1, HL.out.b2, HL.out.seen⟩⟩
      · obtain rfl : k = l.length := by omega
        have hki : ¬ (l.length : Int) < (l.length : Int) := by omega
        have HL := Lib.hid hL
        clear hL
        go_wp2_with fail
        go_meet
        exact HL.out
  obtain ⟨wy, rfl⟩ : ∃ wq : World, wq = wc := ⟨_, rfl⟩
  obtain ⟨S1, hS1⟩ : ∃ S1 : WkS, S1 = { S with right := S.right && allTo S.seen l.length } := ⟨_, rfl⟩
  rw [← hS1] at hcut
  have HS1 := Lib.hid hcut
  have HSE := Lib.hid hS1
  clear hcut hS1 HS
  -- do they rise?
  go_upto_block 2 with fail
  go_cut [] (fun wx => WkIn w b sb (.slice A l.length c) l { S1 with right := S1.right && upTo S1.out S1.out.length } wx)
  case first =>
    go_wp2_with fail
    go_loopg [9] S1.out.length (fun g' i wr => ∃ j : Nat, (j = 0 ∨ j + 1 ≤ S1.out.length) ∧ g' = S1.out.length - j ∧ i = .int .i64 ((j : Int) + 1) ∧ WkIn w b sb (.slice A l.length c) l { S1 with right := S1.right && upTo S1.out (j + 1) } wr)
    case atStart => exact ⟨0, .inl rfl, rfl, rfl, by rw [upTo_one _ (Nat.le_refl _), Bool.and_true]; exact HS1.out⟩
    case round =>
      obtain ⟨j, hj, rfl, rfl, hL⟩ := hrel
      obtain ⟨ov, hbk, hov⟩ := hL.wk.blk
      have hml : S1.out.length ≤ 9223372036854775807 := by
        rcases hov.2 with ⟨_, h0⟩ | ⟨g', cap, cur, _, _, _, h1, h2, _⟩
        · have h0' : S1.out.length = 0 := h0
          omega
        · have h1' : S1.out.length ≤ cap := h1
          unfold maxLen at h2
          omega
      have hens : EnsAt wr ov S1.out := OwnE.ens hov
      obtain ⟨A2, c2, rfl, _⟩ := id hens
      obtain ⟨_, _, hsee⟩ := hens.see
      have b2 : wr.cell? ⟨b, 2, none⟩ = some (.slice A2 S1.out.length c2) := hbk.cell 2
      obtain ⟨q, hq⟩ : ∃ q, q = (S1.right && upTo S1.out (j + 1)) := ⟨_, rfl⟩
      rw [← hq] at hbk hL
      have HL := Lib.hid hL
      have HBK := Lib.hid hbk
      by_cases hlt : j + 1 < S1.out.length
      · have hji : (j : Int) + 1 < (S1.out.length : Int) := by omega
        obtain ⟨g2, o2, rfl, hcl⟩ := hsee (by omega)
        obtain ⟨⟨⟨t1, s1⟩, v1⟩, he1⟩ : ∃ e, e = S1.out.getD j e0 := ⟨_, rfl⟩
        obtain ⟨⟨⟨t2, s2⟩, v2⟩, he2⟩ : ∃ e, e = S1.out.getD (j + 1) e0 := ⟨_, rfl⟩
        obtain ⟨m, hm⟩ : ∃ m, m = S1.out.length := ⟨_, rfl⟩
        obtain ⟨r, hr⟩ : ∃ r, r = bel ⟨t1, s1⟩ ⟨t2, s2⟩ := ⟨_, rfl⟩
        have hq2 : (S1.right && upTo S1.out (j + 1 + 1)) = (q && r) := by rw [upTo_succ, ← he1, ← he2, hq, hr, Bool.and_assoc]
        have HQ := Lib.hid hq2
        have HR1 := Lib.hid (show ∀ X, Calls Try.prog 20 #[.agg #[.int .i64 t1, .int .i64 s1], .agg #[.int .i64 t2, .int .i64 s2]] X fun e w' => e = .returned (.bool r) ∧ Below X.heap.size X w' from fun X => (rbelow_any ⟨t1, s1⟩ ⟨t2, s2⟩ X).mono fun e w' h => ⟨by rw [h.1, hr], h.2⟩)
        have HS14 := Lib.hid (show ∀ X, Below wr.heap.size wr X → (X.cell? ⟨b, 4, none⟩ = some (.bool q) ∧ X.frozen? ⟨b, 4, none⟩ = false ∧ X.cell? ⟨b, 2, none⟩ = some (.slice (some ⟨g2, o2, none⟩) m c2) ∧ X.cell? ⟨g2, o2 + j * 3, none⟩ = some (.int .i64 t1) ∧ X.cell? ⟨g2, o2 + j * 3 + 1, none⟩ = some (.int .i64 s1) ∧ X.cell? ⟨g2, o2 + (j + 1) * 3, none⟩ = some (.int .i64 t2) ∧ X.cell? ⟨g2, o2 + (j + 1) * 3 + 1, none⟩ = some (.int .i64 s2)) from fun X hX => by
          have hk := hbk.below hX hbk.lt
          have h1 := hcl X hX j (by omega)
          have h2 := hcl X hX (j + 1) hlt
          rw [← he1] at h1
          rw [← he2] at h2
          rw [hm]
          exact ⟨hk.cell 4, hk.frozen 4, hk.cell 2, h1.1, h1.2.1, h2.1, h2.2.1⟩)
        have hjm1 : (j : Int) < (m : Int) := by omega
        have hjm2 : (j : Int) + 1 < (m : Int) := by omega
        have hj0 : (0 : Int) ≤ (j : Int) := by omega
        have hj1 : (0 : Int) ≤ (j : Int) + 1 := by omega
        have hmm : m ≤ 9223372036854775807 := by omega
        rw [← hm] at b2 hji
        have HMM := Lib.hid hm
        clear hbk hov hens hsee hcl he1 he2 hm hr hq hq2 hL hml
        go_upto_region 14 with fail
        clear b2
        cases q
        · refine (wpIn_wide (n := 0)).1 ?_
          refine anyS_region (S := (fun X => X.cell? ⟨b, 4, none⟩ = some (.bool false) ∧ X.frozen? ⟨b, 4, none⟩ = false ∧ X.cell? ⟨b, 2, none⟩ = some (.slice (some ⟨g2, o2, none⟩) m c2) ∧ X.cell? ⟨g2, o2 + j * 3, none⟩ = some (.int .i64 t1) ∧ X.cell? ⟨g2, o2 + j * 3 + 1, none⟩ = some (.int .i64 s1) ∧ X.cell? ⟨g2, o2 + (j + 1) * 3, none⟩ = some (.int .i64 t2) ∧ X.cell? ⟨g2, o2 + (j + 1) * 3 + 1, none⟩ = some (.int .i64 s2))) 27 (by kernel_rfl) ?_ (fun hHeld => ?_)
          · exact HS14.out _ ((Below.refl _ _).drew)
          refine anyS_take (i := 0) (v := ?_) (by (simp only [List.getElem?_toArray, List.getElem?_cons_zero]); exact rfl) (by kernel_rfl) (by kernel_rfl) (by kernel_rfl) (by kernel_rfl) (by decide) (by intro _ _ _ h; exact h) (Or.inl ⟨by rfl, ?_⟩) (by assumption) ?_
          rotate_left
          · (intro w hSw; (try dsimp only at hSw); go_simp; (try with_reducible rfl))
          try simp only [Act.put, List.setIfInBounds_toArray, List.set_cons_zero, List.set_cons_succ]
          refine anyS_take (i := 1) (v := ?_) (by (simp only [List.getElem?_toArray, List.getElem?_cons_zero, List.getElem?_cons_succ]); exact rfl) (by kernel_rfl) (by kernel_rfl) (by kernel_rfl) (by kernel_rfl) (by decide) (by intro _ _ _ h; exact h) (Or.inl ⟨by rfl, ?_⟩) (by assumption) ?_
          rotate_left
          · (intro w hSw; (try dsimp only at hSw); go_simp; (try with_reducible rfl))
          try simp only [Act.put, List.setIfInBounds_toArray, List.set_cons_zero, List.set_cons_succ]
          refine anyS_take (i := 2) (v := ?_) (by (simp only [List.getElem?_toArray, List.getElem?_cons_zero, List.getElem?_cons_succ]); exact rfl) (by kernel_rfl) (by kernel_rfl) (by kernel_rfl) (by kernel_rfl) (by decide) (by intro _ _ _ h; exact h) (Or.inl ⟨by rfl, ?_⟩) (by assumption) ?_
          rotate_left
          · (intro w hSw; (try dsimp only at hSw); go_simp; (try with_reducible rfl))
          try simp only [Act.put, List.setIfInBounds_toArray, List.set_cons_zero, List.set_cons_succ]
          refine anyS_take (i := 3) (v := ?_) (by (simp only [List.getElem?_toArray, List.getElem?_cons_zero, List.getElem?_cons_succ]); exact rfl) (by kernel_rfl) (by kernel_rfl) (by kernel_rfl) (by kernel_rfl) (by decide) (by intro _ _ _ h; exact h) (Or.inl ⟨by rfl, ?_⟩) (by assumption) ?_
          rotate_left
          · (intro w hSw; (try dsimp only at hSw); go_simp; (try with_reducible rfl))
          try simp only [Act.put, List.setIfInBounds_toArray, List.set_cons_zero, List.set_cons_succ]
          refine anyS_take (i := 4) (v := ?_) (by (simp only [List.getElem?_toArray, List.getElem?_cons_zero, List.getElem?_cons_succ]); exact rfl) (by kernel_rfl) (by kernel_rfl) (by kernel_rfl) (by kernel_rfl) (by decide) (by intro _ _ _ h; exact h) (Or.inl ⟨by rfl, ?_⟩) (by assumption) ?_
          rotate_left
          · (intro w hSw; (try dsimp only at hSw); go_simp; (try with_reducible rfl))
          try simp only [Act.put, List.setIfInBounds_toArray, List.set_cons_zero, List.set_cons_succ]
          refine anyS_take (i := 5) (v := ?_) (by (simp only [List.getElem?_toArray, List.getElem?_cons_zero, List.getElem?_cons_succ]); exact rfl) (by kernel_rfl) (by kernel_rfl) (by kernel_rfl) (by kernel_rfl) (by decide) (by intro _ _ _ h; exact h) (Or.inl ⟨by rfl, ?_⟩) (by assumption) ?_
          rotate_left
          · (intro w hSw; (try dsimp only at hSw); go_simp; (try with_reducible rfl))
          try simp only [Act.put, List.setIfInBounds_toArray, List.set_cons_zero, List.set_cons_succ]
          refine anyS_take (i := 6) (v := undef) (by (simp only [List.getElem?_toArray, List.getElem?_cons_zero, List.getElem?_cons_succ]); exact rfl) (by kernel_rfl) (by kernel_rfl) (by kernel_rfl) (by kernel_rfl) (by decide) (by intro _ _ _ h; exact h) (Or.inr ⟨by rfl, rfl⟩) (by assumption) ?_
          try simp only [Act.put, List.setIfInBounds_toArray, List.set_cons_zero, List.set_cons_succ]
          refine anyS_take (i := 7) (v := undef) (by (simp only [List.getElem?_toArray, List.getElem?_cons_zero, List.getElem?_cons_succ]); exact rfl) (by kernel_rfl) (by kernel_rfl) (by kernel_rfl) (by kernel_rfl) (by decide) (by intro _ _ _ h; exact h) (Or.inr ⟨by rfl, rfl⟩) (by assumption) ?_
          try simp only [Act.put, List.setIfInBounds_toArray, List.set_cons_zero, List.set_cons_succ]
          refine anyS_take (i := 8) (v := undef) (by (simp only [List.getElem?_toArray, List.getElem?_cons_zero, List.getElem?_cons_succ]); exact rfl) (by kernel_rfl) (by kernel_rfl) (by kernel_rfl) (by kernel_rfl) (by decide) (by intro _ _ _ h; exact h) (Or.inr ⟨by rfl, rfl⟩) (by assumption) ?_
          try simp only [Act.put, List.setIfInBounds_toArray, List.set_cons_zero, List.set_cons_succ]
          refine anyS_take (i := 9) (v := undef) (by (simp only [List.getElem?_toArray, List.getElem?_cons_zero, List.getElem?_cons_succ]); exact rfl) (by kernel_rfl) (by kernel_rfl) (by kernel_rfl) (by kernel_rfl) (by decide) (by intro _ _ _ h; exact h) (Or.inr ⟨by rfl, rfl⟩) (by assumption) ?_
          try simp only [Act.put, List.setIfInBounds_toArray, List.set_cons_zero, List.set_cons_succ]
          refine anyS_take (i := 10) (v := undef) (by (simp only [List.getElem?_toArray, List.getElem?_cons_zero, List.getElem?_cons_succ]); exact rfl) (by kernel_rfl) (by kernel_rfl) (by kernel_rfl) (by kernel_rfl) (by decide) (by intro _ _ _ h; exact h) (Or.inr ⟨by rfl, rfl⟩) (by assumption) ?_
          try simp only [Act.put, List.setIfInBounds_toArray, List.set_cons_zero, List.set_cons_succ]
          refine anyS_take (i := 11) (v := undef) (by (simp only [List.getElem?_toArray, List.getElem?_cons_zero, List.getElem?_cons_succ]); exact rfl) (by kernel_rfl) (by kernel_rfl) (by kernel_rfl) (by kernel_rfl) (by decide) (by intro _ _ _ h; exact h) (Or.inr ⟨by rfl, rfl⟩) (by assumption) ?_
          try simp only [Act.put, List.setIfInBounds_toArray, List.set_cons_zero, List.set_cons_succ]
          refine anyS_take (i := 12) (v := undef) (by (simp only [List.getElem?_toArray, List.getElem?_cons_zero, List.getElem?_cons_succ]); exact rfl) (by kernel_rfl) (by kernel_rfl) (by kernel_rfl) (by kernel_rfl) (by decide) (by intro _ _ _ h; exact h) (Or.inr ⟨by rfl, rfl⟩) (by assumption) ?_
          try simp only [Act.put, List.setIfInBounds_toArray, List.set_cons_zero, List.set_cons_succ]
          refine anyS_take (i := 13) (v := undef) (by (simp only [List.getElem?_toArray, List.getElem?_cons_zero, List.getElem?_cons_succ]); exact rfl) (by kernel_rfl) (by kernel_rfl) (by kernel_rfl) (by kernel_rfl) (by decide) (by intro _ _ _ h; exact h) (Or.inr ⟨by rfl, rfl⟩) (by assumption) ?_
          try simp only [Act.put, List.setIfInBounds_toArray, List.set_cons_zero, List.set_cons_succ]
          refine anyS_take (i := 14) (v := undef) (by (simp only [List.getElem?_toArray, List.getElem?_cons_zero, List.getElem?_cons_succ]); exact rfl) (by kernel_rfl) (by kernel_rfl) (by kernel_rfl) (by kernel_rfl) (by decide) (by intro _ _ _ h; exact h) (Or.inr ⟨by rfl, rfl⟩) (by assumption) ?_
          try simp only [Act.put, List.setIfInBounds_toArray, List.set_cons_zero, List.set_cons_succ]
          refine anyS_take (i := 15) (v := undef) (by (simp only [List.getElem?_toArray, List.getElem?_cons_zero, List.getElem?_cons_succ]); exact rfl) (by kernel_rfl) (by kernel_rfl) (by kernel_rfl) (by kernel_rfl) (by decide) (by intro _ _ _ h; exact h) (Or.inr ⟨by rfl, rfl⟩) (by assumption) ?_
          try simp only [Act.put, List.setIfInBounds_toArray, List.set_cons_zero, List.set_cons_succ]
          refine anyS_take (i := 16) (v := undef) (by (simp only [List.getElem?_toArray, List.getElem?_cons_zero, List.getElem?_cons_succ]); exact rfl) (by kernel_rfl) (by kernel_rfl) (by kernel_rfl) (by kernel_rfl) (by decide) (by intro _ _ _ h; exact h) (Or.inr ⟨by rfl, rfl⟩) (by assumption) ?_
          try simp only [Act.put, List.setIfInBounds_toArray, List.set_cons_zero, List.set_cons_succ]
          refine anyS_take (i := 17) (v := undef) (by (simp only [List.getElem?_toArray, List.getElem?_cons_zero, List.getElem?_cons_succ]); exact rfl) (by kernel_rfl) (by kernel_rfl) (by kernel_rfl) (by kernel_rfl) (by decide) (by intro _ _ _ h; exact h) (Or.inr ⟨by rfl, rfl⟩) (by assumption) ?_
          try simp only [Act.put, List.setIfInBounds_toArray, List.set_cons_zero, List.set_cons_succ]
          refine anyS_take (i := 18) (v := undef) (by (simp only [List.getElem?_toArray, List.getElem?_cons_zero, List.getElem?_cons_succ]); exact rfl) (by kernel_rfl) (by kernel_rfl) (by kernel_rfl) (by kernel_rfl) (by decide) (by intro _ _ _ h; exact h) (Or.inr ⟨by rfl, rfl⟩) (by assumption) ?_
          try simp only [Act.put, List.setIfInBounds_toArray, List.set_cons_zero, List.set_cons_succ]
          refine anyS_take (i := 19) (v := undef) (by (simp only [List.getElem?_toArray, List.getElem?_cons_zero, List.getElem?_cons_succ]); exact rfl) (by kernel_rfl) (by kernel_rfl) (by kernel_rfl) (by kernel_rfl) (by decide) (by intro _ _ _ h; exact h) (Or.inr ⟨by rfl, rfl⟩) (by assumption) ?_
          try simp only [Act.put, List.setIfInBounds_toArray, List.set_cons_zero, List.set_cons_succ]
          refine anyS_take (i := 20) (v := undef) (by (simp only [List.getElem?_toArray, List.getElem?_cons_zero, List.getElem?_cons_succ]); exact rfl) (by kernel_rfl) (by kernel_rfl) (by kernel_rfl) (by kernel_rfl) (by decide) (by intro _ _ _ h; exact h) (Or.inr ⟨by rfl, rfl⟩) (by assumption) ?_
          try simp only [Act.put, List.setIfInBounds_toArray, List.set_cons_zero, List.set_cons_succ]
          refine anyS_take (i := 21) (v := undef) (by (simp only [List.getElem?_toArray, List.getElem?_cons_zero, List.getElem?_cons_succ]); exact rfl) (by kernel_rfl) (by kernel_rfl) (by kernel_rfl) (by kernel_rfl) (by decide) (by intro _ _ _ h; exact h) (Or.inr ⟨by rfl, rfl⟩) (by assumption) ?_
          try simp only [Act.put, List.setIfInBounds_toArray, List.set_cons_zero, List.set_cons_succ]
          refine anyS_take (i := 22) (v := undef) (by (simp only [List.getElem?_toArray, List.getElem?_cons_zero, List.getElem?_cons_succ]); exact rfl) (by kernel_rfl) (by kernel_rfl) (by kernel_rfl) (by kernel_rfl) (by decide) (by intro _ _ _ h; exact h) (Or.inr ⟨by rfl, rfl⟩) (by assumption) ?_
          try simp only [Act.put, List.setIfInBounds_toArray, List.set_cons_zero, List.set_cons_succ]
          refine anyS_take (i := 23) (v := undef) (by (simp only [List.getElem?_toArray, List.getElem?_cons_zero, List.getElem?_cons_succ]); exact rfl) (by kernel_rfl) (by kernel_rfl) (by kernel_rfl) (by kernel_rfl) (by decide) (by intro _ _ _ h; exact h) (Or.inr ⟨by rfl, rfl⟩) (by assumption) ?_
          try simp only [Act.put, List.setIfInBounds_toArray, List.set_cons_zero, List.set_cons_succ]
          refine anyS_take (i := 24) (v := ?_) (by (simp only [List.getElem?_toArray, List.getElem?_cons_zero, List.getElem?_cons_succ]); exact rfl) (by kernel_rfl) (by kernel_rfl) (by kernel_rfl) (by kernel_rfl) (by decide) (by intro _ _ _ h; exact h) (Or.inl ⟨by rfl, ?_⟩) (by assumption) ?_
          rotate_left
          · (intro w hSw; (try dsimp only at hSw); go_simp; (try with_reducible rfl))
          try simp only [Act.put, List.setIfInBounds_toArray, List.set_cons_zero, List.set_cons_succ]
          refine anyS_take (i := 25) (v := ?_) (by (simp only [List.getElem?_toArray, List.getElem?_cons_zero, List.getElem?_cons_succ]); exact rfl) (by kernel_rfl) (by kernel_rfl) (by kernel_rfl) (by kernel_rfl) (by decide) (by intro _ _ _ h; exact h) (Or.inl ⟨by rfl, ?_⟩) (by assumption) ?_
          rotate_left
          · (intro w hSw; (try dsimp only at hSw); go_simp; (try with_reducible rfl))
          try simp only [Act.put, List.setIfInBounds_toArray, List.set_cons_zero, List.set_cons_succ]
          refine anyS_take (i := 26) (v := ?_) (by (simp only [List.getElem?_toArray, List.getElem?_cons_zero, List.getElem?_cons_succ]); exact rfl) (by kernel_rfl) (by kernel_rfl) (by kernel_rfl) (by kernel_rfl) (by decide) (by intro _ _ _ h; exact h) (Or.inl ⟨by rfl, ?_⟩) (by assumption) ?_
          rotate_left
          · (intro w hSw; (try dsimp only at hSw); go_simp; (try with_reducible rfl))
          try simp only [Act.put, List.setIfInBounds_toArray, List.set_cons_zero, List.set_cons_succ]
          refine anyS_exit (e := 27) (by kernel_rfl) (by (simp only [List.getElem?_toArray, List.getElem?_cons_zero, List.getElem?_cons_succ]); exact rfl) (by rfl) (fun K hK => ?_)
          (try dsimp only at hHeld)
          go_simp
          refine hK.out _ _ ?_
          clear hK K
          try simp only [Act.put, List.setIfInBounds_toArray, List.set_cons_zero, List.set_cons_succ]
          refine wpAnyIn_done (by kernel_rfl) ?_ _
          go_wp2_with fail
          go_roundg (S1.out.length - (j + 1))
          case measure => omega
          case rel => exact ⟨j + 1, .inr hlt, rfl, by go_num, by rw [HQ.out, Bool.false_and]; have h := HL.out.on (Below.refl wr.heap.size wr).drew; exact ⟨(h.wk.setRight false).1, h.low.setCell h.b1 _, h.b1, h.b2, h.seen⟩⟩
        · have hw1 : IntKind.i64.wrap (j : Int) = (j : Int) := IntWalk.i64_in _ (by omega)
          have hw2 : ((j : Int) + 1).toNat = j + 1 := by omega
          refine (wpIn_wide (n := 0)).1 ?_
          refine anyS_region (S := (fun X => X.cell? ⟨b, 4, none⟩ = some (.bool true) ∧ X.frozen? ⟨b, 4, none⟩ = false ∧ X.cell? ⟨b, 2, none⟩ = some (.slice (some ⟨g2, o2, none⟩) m c2) ∧ X.cell? ⟨g2, o2 + j * 3, none⟩ = some (.int .i64 t1) ∧ X.cell? ⟨g2, o2 + j * 3 + 1, none⟩ = some (.int .i64 s1) ∧ X.cell? ⟨g2, o2 + (j + 1) * 3, none⟩ = some (.int .i64 t2) ∧ X.cell? ⟨g2, o2 + (j + 1) * 3 + 1, none⟩ = some (.int .i64 s2))) 27 (by kernel_rfl) ?_ (fun hHeld => ?_)
          · exact HS14.out _ ((Below.refl _ _).drew)
          refine anyS_take (i := 0) (v := ?_) (by (simp only [List.getElem?_toArray, List.getElem?_cons_zero]); exact rfl) (by kernel_rfl) (by kernel_rfl) (by kernel_rfl) (by kernel_rfl) (by decide) (by intro _ _ _ h; exact h) (Or.inl ⟨by rfl, ?_⟩) (by assumption) ?_
          rotate_left
          · (intro w hSw; (try dsimp only at hSw); go_simp; (try with_reducible rfl))
          try simp only [Act.put, List.setIfInBounds_toArray, List.set_cons_zero, List.set_cons_succ]
          refine anyS_take (i := 1) (v := ?_) (by (simp only [List.getElem?_toArray, List.getElem?_cons_zero, List.getElem?_cons_succ]); exact rfl) (by kernel_rfl) (by kernel_rfl) (by kernel_rfl) (by kernel_rfl) (by decide) (by intro _ _ _ h; exact h) (Or.inl ⟨by rfl, ?_⟩) (by assumption) ?_
          rotate_left
          · (intro w hSw; (try dsimp only at hSw); go_simp; (try with_reducible rfl))
          try simp only [Act.put, List.setIfInBounds_toArray, List.set_cons_zero, List.set_cons_succ]
          refine anyS_take (i := 2) (v := ?_) (by (simp only [List.getElem?_toArray, List.getElem?_cons_zero, List.getElem?_cons_succ]); exact rfl) (by kernel_rfl) (by kernel_rfl) (by kernel_rfl) (by kernel_rfl) (by decide) (by intro _ _ _ h; exact h) (Or.inl ⟨by rfl, ?_⟩) (by assumption) ?_
          rotate_left
          · (intro w hSw; (try dsimp only at hSw); go_simp; (try with_reducible rfl))
          try simp only [Act.put, List.setIfInBounds_toArray, List.set_cons_zero, List.set_cons_succ]
          refine anyS_take (i := 3) (v := ?_) (by (simp only [List.getElem?_toArray, List.getElem?_cons_zero, List.getElem?_cons_succ]); exact rfl) (by kernel_rfl) (by kernel_rfl) (by kernel_rfl) (by kernel_rfl) (by decide) (by intro _ _ _ h; exact h) (Or.inl ⟨by rfl, ?_⟩) (by assumption) ?_
          rotate_left
          · (intro w hSw; (try dsimp only at hSw); go_simp; (try with_reducible rfl))
          try simp only [Act.put, List.setIfInBounds_toArray, List.set_cons_zero, List.set_cons_succ]
          refine anyS_take (i := 4) (v := ?_) (by (simp only [List.getElem?_toArray, List.getElem?_cons_zero, List.getElem?_cons_succ]); exact rfl) (by kernel_rfl) (by kernel_rfl) (by kernel_rfl) (by kernel_rfl) (by decide) (by intro _ _ _ h; exact h) (Or.inl ⟨by rfl, ?_⟩) (by assumption) ?_
          rotate_left
          · (intro w hSw; (try dsimp only at hSw); go_simp; (try with_reducible rfl))
          try simp only [Act.put, List.setIfInBounds_toArray, List.set_cons_zero, List.set_cons_succ]
          refine anyS_take (i := 5) (v := ?_) (by (simp only [List.getElem?_toArray, List.getElem?_cons_zero, List.getElem?_cons_succ]); exact rfl) (by kernel_rfl) (by kernel_rfl) (by kernel_rfl) (by kernel_rfl) (by decide) (by intro _ _ _ h; exact h) (Or.inl ⟨by rfl, ?_⟩) (by assumption) ?_
          rotate_left
          · (intro w hSw; (try dsimp only at hSw); go_simp; (try with_reducible rfl))
          try simp only [Act.put, List.setIfInBounds_toArray, List.set_cons_zero, List.set_cons_succ]
          refine anyS_take (i := 6) (v := ?_) (by (simp only [List.getElem?_toArray, List.getElem?_cons_zero, List.getElem?_cons_succ]); exact rfl) (by kernel_rfl) (by kernel_rfl) (by kernel_rfl) (by kernel_rfl) (by decide) (by intro _ _ _ h; exact h) (Or.inl ⟨by rfl, ?_⟩) (by assumption) ?_
          rotate_left
          · (intro w hSw; (try dsimp only at hSw); go_simp; (try with_reducible rfl))
          try simp only [Act.put, List.setIfInBounds_toArray, List.set_cons_zero, List.set_cons_succ]
          refine anyS_take (i := 7) (v := ?_) (by (simp only [List.getElem?_toArray, List.getElem?_cons_zero, List.getElem?_cons_succ]); exact rfl) (by kernel_rfl) (by kernel_rfl) (by kernel_rfl) (by kernel_rfl) (by decide) (by intro _ _ _ h; exact h) (Or.inl ⟨by rfl, ?_⟩) (by assumption) ?_
          rotate_left
          · (intro w hSw; (try dsimp only at hSw); go_simp; (try with_reducible rfl))
          try simp only [Act.put, List.setIfInBounds_toArray, List.set_cons_zero, List.set_cons_succ]
          refine anyS_take (i := 8) (v := ?_) (by (simp only [List.getElem?_toArray, List.getElem?_cons_zero, List.getElem?_cons_succ]); exact rfl) (by kernel_rfl) (by kernel_rfl) (by kernel_rfl) (by kernel_rfl) (by decide) (by intro _ _ _ h; exact h) (Or.inl ⟨by rfl, ?_⟩) (by assumption) ?_
          rotate_left
          · (intro w hSw; (try dsimp only at hSw); go_simp; (try with_reducible rfl))
          try simp only [Act.put, List.setIfInBounds_toArray, List.set_cons_zero, List.set_cons_succ]
          refine anyS_take (i := 9) (v := ?_) (by (simp only [List.getElem?_toArray, List.getElem?_cons_zero, List.getElem?_cons_succ]); exact rfl) (by kernel_rfl) (by kernel_rfl) (by kernel_rfl) (by kernel_rfl) (by decide) (by intro _ _ _ h; exact h) (Or.inl ⟨by rfl, ?_⟩) (by assumption) ?_
          rotate_left
          · (intro w hSw; (try dsimp only at hSw); go_simp; (try with_reducible rfl))
          try simp only [Act.put, List.setIfInBounds_toArray, List.set_cons_zero, List.set_cons_succ]
          refine anyS_take (i := 10) (v := ?_) (by (simp only [List.getElem?_toArray, List.getElem?_cons_zero, List.getElem?_cons_succ]); exact rfl) (by kernel_rfl) (by kernel_rfl) (by kernel_rfl) (by kernel_rfl) (by decide) (by intro _ _ _ h; exact h) (Or.inl ⟨by rfl, ?_⟩) (by assumption) ?_
          rotate_left
          · (intro w hSw; (try dsimp only at hSw); go_simp; (try with_reducible rfl))
          try simp only [Act.put, List.setIfInBounds_toArray, List.set_cons_zero, List.set_cons_succ]
          refine anyS_take (i := 11) (v := ?_) (by (simp only [List.getElem?_toArray, List.getElem?_cons_zero, List.getElem?_cons_succ]); exact rfl) (by kernel_rfl) (by kernel_rfl) (by kernel_rfl) (by kernel_rfl) (by decide) (by intro _ _ _ h; exact h) (Or.inl ⟨by rfl, ?_⟩) (by assumption) ?_
          rotate_left
          · (intro w hSw; (try dsimp only at hSw); go_simp; (try with_reducible rfl))
          try simp only [Act.put, List.setIfInBounds_toArray, List.set_cons_zero, List.set_cons_succ]
          refine anyS_take (i := 12) (v := ?_) (by (simp only [List.getElem?_toArray, List.getElem?_cons_zero, List.getElem?_cons_succ]); exact rfl) (by kernel_rfl) (by kernel_rfl) (by kernel_rfl) (by kernel_rfl) (by decide) (by intro _ _ _ h; exact h) (Or.inl ⟨by rfl, ?_⟩) (by assumption) ?_
          rotate_left
          · (intro w hSw; (try dsimp only at hSw); go_simp; (try with_reducible rfl))
          try simp only [Act.put, List.setIfInBounds_toArray, List.set_cons_zero, List.set_cons_succ]
          refine anyS_take (i := 13) (v := ?_) (by (simp only [List.getElem?_toArray, List.getElem?_cons_zero, List.getElem?_cons_succ]); exact rfl) (by kernel_rfl) (by kernel_rfl) (by kernel_rfl) (by kernel_rfl) (by decide) (by intro _ _ _ h; exact h) (Or.inl ⟨by rfl, ?_⟩) (by assumption) ?_
          rotate_left
          · (intro w hSw; (try dsimp only at hSw); go_simp; (try with_reducible rfl))
          try simp only [Act.put, List.setIfInBounds_toArray, List.set_cons_zero, List.set_cons_succ]
          refine anyS_take (i := 14) (v := ?_) (by (simp only [List.getElem?_toArray, List.getElem?_cons_zero, List.getElem?_cons_succ]); exact rfl) (by kernel_rfl) (by kernel_rfl) (by kernel_rfl) (by kernel_rfl) (by decide) (by intro _ _ _ h; exact h) (Or.inl ⟨by rfl, ?_⟩) (by assumption) ?_
          rotate_left
          · (intro w hSw; (try dsimp only at hSw); go_simp; (try with_reducible rfl))
          try simp only [Act.put, List.setIfInBounds_toArray, List.set_cons_zero, List.set_cons_succ]
          refine anyS_take (i := 15) (v := ?_) (by (simp only [List.getElem?_toArray, List.getElem?_cons_zero, List.getElem?_cons_succ]); exact rfl) (by kernel_rfl) (by kernel_rfl) (by kernel_rfl) (by kernel_rfl) (by decide) (by intro _ _ _ h; exact h) (Or.inl ⟨by rfl, ?_⟩) (by assumption) ?_
          rotate_left
          · (intro w hSw; (try dsimp only at hSw); go_simp; (try with_reducible rfl))
          try simp only [Act.put, List.setIfInBounds_toArray, List.set_cons_zero, List.set_cons_succ]
          refine anyS_take (i := 16) (v := ?_) (by (simp only [List.getElem?_toArray, List.getElem?_cons_zero, List.getElem?_cons_succ]); exact rfl) (by kernel_rfl) (by kernel_rfl) (by kernel_rfl) (by kernel_rfl) (by decide) (by intro _ _ _ h; exact h) (Or.inl ⟨by rfl, ?_⟩) (by assumption) ?_
          rotate_left
          · (intro w hSw; (try dsimp only at hSw); go_simp; (try with_reducible rfl))
          try simp only [Act.put, List.setIfInBounds_toArray, List.set_cons_zero, List.set_cons_succ]
          refine anyS_take (i := 17) (v := ?_) (by (simp only [List.getElem?_toArray, List.getElem?_cons_zero, List.getElem?_cons_succ]); exact rfl) (by kernel_rfl) (by kernel_rfl) (by kernel_rfl) (by kernel_rfl) (by decide) (by intro _ _ _ h; exact h) (Or.inl ⟨by rfl, ?_⟩) (by assumption) ?_
          rotate_left
          · (intro w hSw; (try dsimp only at hSw); go_simp; (try with_reducible rfl))
          try simp only [Act.put, List.setIfInBounds_toArray, List.set_cons_zero, List.set_cons_succ]
          refine anyS_take (i := 18) (v := ?_) (by (simp only [List.getElem?_toArray, List.getElem?_cons_zero, List.getElem?_cons_succ]); exact rfl) (by kernel_rfl) (by kernel_rfl) (by kernel_rfl) (by kernel_rfl) (by decide) (by intro _ _ _ h; exact h) (Or.inl ⟨by rfl, ?_⟩) (by assumption) ?_
          rotate_left
          · (intro w hSw; (try dsimp only at hSw); go_simp; (try with_reducible rfl))
          try simp only [Act.put, List.setIfInBounds_toArray, List.set_cons_zero, List.set_cons_succ]
          refine anyS_take (i := 19) (v := ?_) (by (simp only [List.getElem?_toArray, List.getElem?_cons_zero, List.getElem?_cons_succ]); exact rfl) (by kernel_rfl) (by kernel_rfl) (by kernel_rfl) (by kernel_rfl) (by decide) (by intro _ _ _ h; exact h) (Or.inl ⟨by rfl, ?_⟩) (by assumption) ?_
          rotate_left
          · (intro w hSw; (try dsimp only at hSw); go_simp; (try with_reducible rfl))
          try simp only [Act.put, List.setIfInBounds_toArray, List.set_cons_zero, List.set_cons_succ]
          refine anyS_take (i := 20) (v := ?_) (by (simp only [List.getElem?_toArray, List.getElem?_cons_zero, List.getElem?_cons_succ]); exact rfl) (by kernel_rfl) (by kernel_rfl) (by kernel_rfl) (by kernel_rfl) (by decide) (by intro _ _ _ h; exact h) (Or.inl ⟨by rfl, ?_⟩) (by assumption) ?_
          rotate_left
          · (intro w hSw; (try dsimp only at hSw); go_simp; (try with_reducible rfl))
          try simp only [Act.put, List.setIfInBounds_toArray, List.set_cons_zero, List.set_cons_succ]
          refine anyS_take (i := 21) (v := ?_) (by (simp only [List.getElem?_toArray, List.getElem?_cons_zero, List.getElem?_cons_succ]); exact rfl) (by kernel_rfl) (by kernel_rfl) (by kernel_rfl) (by kernel_rfl) (by decide) (by intro _ _ _ h; exact h) (Or.inl ⟨by rfl, ?_⟩) (by assumption) ?_
          rotate_left
          · (intro w hSw; (try dsimp only at hSw); go_simp; (try with_reducible rfl))
          try simp only [Act.put, List.setIfInBounds_toArray, List.set_cons_zero, List.set_cons_succ]
          refine anyS_take (i := 22) (v := ?_) (by (simp only [List.getElem?_toArray, List.getElem?_cons_zero, List.getElem?_cons_succ]); exact rfl) (by kernel_rfl) (by kernel_rfl) (by kernel_rfl) (by kernel_rfl) (by decide) (by intro _ _ _ h; exact h) (Or.inl ⟨by rfl, ?_⟩) (by assumption) ?_
          rotate_left
          · (intro w hSw; (try dsimp only at hSw); go_simp; (try with_reducible rfl))
          try simp only [Act.put, List.setIfInBounds_toArray, List.set_cons_zero, List.set_cons_succ]
          refine anyS_only (i := 23) (by kernel_rfl) (by decide) (by (simp only [List.getElem?_toArray, List.getElem?_cons_zero, List.getElem?_cons_succ]); exact rfl) (by rfl) (fun K hK => ?_)
          go_simp
          refine ⟨trivial, rfl, ?_⟩
          gi_at_call 20
          refine (callsIn_wide.2 (HR1.out _)).mono ?_
          rintro e wk ⟨rfl, hbk⟩
          have hBL : Below wr.heap.size wr wk := Below.trans ((Below.refl _ _).drew) hbk
          refine hK.out _ _ ?_ (fun hHeld => ?_)
          · exact HS14.out _ hBL
          clear hK K
          try simp only [Act.put, List.setIfInBounds_toArray, List.set_cons_zero, List.set_cons_succ]
          refine anyS_take (i := 24) (v := ?_) (by (simp only [List.getElem?_toArray, List.getElem?_cons_zero, List.getElem?_cons_succ]); exact rfl) (by kernel_rfl) (by kernel_rfl) (by kernel_rfl) (by kernel_rfl) (by decide) (by intro _ _ _ h; exact h) (Or.inl ⟨by rfl, ?_⟩) (by assumption) ?_
          rotate_left
          · (intro w hSw; (try dsimp only at hSw); go_simp; (try with_reducible rfl))
          try simp only [Act.put, List.setIfInBounds_toArray, List.set_cons_zero, List.set_cons_succ]
          refine anyS_take (i := 25) (v := ?_) (by (simp only [List.getElem?_toArray, List.getElem?_cons_zero, List.getElem?_cons_succ]); exact rfl) (by kernel_rfl) (by kernel_rfl) (by kernel_rfl) (by kernel_rfl) (by decide) (by intro _ _ _ h; exact h) (Or.inl ⟨by rfl, ?_⟩) (by assumption) ?_
          rotate_left
          · (intro w hSw; (try dsimp only at hSw); go_simp; (try with_reducible rfl))
          try simp only [Act.put, List.setIfInBounds_toArray, List.set_cons_zero, List.set_cons_succ]
          refine anyS_take (i := 26) (v := ?_) (by (simp only [List.getElem?_toArray, List.getElem?_cons_zero, List.getElem?_cons_succ]); exact rfl) (by kernel_rfl) (by kernel_rfl) (by kernel_rfl) (by kernel_rfl) (by decide) (by intro _ _ _ h; exact h) (Or.inl ⟨by rfl, ?_⟩) (by assumption) ?_
          rotate_left
          · (intro w hSw; (try dsimp only at hSw); go_simp; (try with_reducible rfl))
          try simp only [Act.put, List.setIfInBounds_toArray, List.set_cons_zero, List.set_cons_succ]
          refine anyS_exit (e := 27) (by kernel_rfl) (by (simp only [List.getElem?_toArray, List.getElem?_cons_zero, List.getElem?_cons_succ]); exact rfl) (by rfl) (fun K hK => ?_)
          (try dsimp only at hHeld)
          go_simp
          refine hK.out _ _ ?_
          clear hK K
          try simp only [Act.put, List.setIfInBounds_toArray, List.set_cons_zero, List.set_cons_succ]
          refine wpAnyIn_done (by kernel_rfl) ?_ _
          clear hw1 hw2
          go_wp2_with fail
          go_roundg (S1.out.length - (j + 1))
          case measure => omega
          case rel => exact ⟨j + 1, .inr hlt, rfl, by go_num, by rw [HQ.out, Bool.true_and]; have h := HL.out.on hBL; exact ⟨(h.wk.setRight r).1, h.low.setCell h.b1 _, h.b1, h.b2, h.seen⟩⟩
      · have hji : ¬ (j : Int) + 1 < (S1.out.length : Int) := by omega
        have hup : upTo S1.out (j + 1) = upTo S1.out S1.out.length := by
          rcases hj with h | h
          · subst h
            rw [upTo_one _ (Nat.le_of_not_lt hlt), upTo_one _ (Nat.le_refl 1)]
          · rw [Nat.le_antisymm h (Nat.le_of_not_lt hlt)]
        rw [hq, hup] at hL
        have HL2 := Lib.hid hL
        clear hL hup hq hbk hov hens hsee
        go_wp2_with fail
        go_meet
        exact HL2.out
  have HE := Lib.hid hcut
  obtain ⟨wv, rfl⟩ : ∃ wq : World, wq = wc := ⟨_, rfl⟩
  clear hcut
  obtain ⟨rt, hrt⟩ : ∃ rt, rt = (S1.right && upTo S1.out S1.out.length) := ⟨_, rfl⟩
  rw [← hrt] at HE
  obtain ⟨ov, hbk, hov⟩ := HE.out.wk.blk
  have b4 : wv.cell? ⟨b, 4, none⟩ = some (.bool rt) := hbk.cell 4
  have HRT := Lib.hid hrt
  clear hrt
  cases rt
  · have HNO := Lib.hid (show ofE d l = none from by
      refine ofE_none (fun r' hr' hh => ?_)
      rcases HST.out with ⟨r, hr, hS⟩ | ⟨hn, _⟩
      · rw [hr] at hr'
        cases hr'
        have h := HRT.out
        rw [HSE.out, hS] at h
        simp only [Bool.true_and] at h
        rw [upTo_all.2 hh.2, Bool.and_true] at h
        have hl : r'.seen.length = l.length := by have := HS1.out.seen; rw [HSE.out, hS] at this; exact this
        rw [← hl, allTo_all, hh.1] at h
        cases h
      · rw [hn] at hr'
        cases hr')
    have HLW := Lib.hid HE.out.low
    clear hbk hov HRT HST HSE HE HS1
    go_wp2_with fail
    refine bodyPost_ret (v := .tuple #[.slice none 0 0, .int .i64 0, .int .i64 4]) ?_ rfl ⟨HLW.out, .inr ⟨HNO.out, rfl⟩⟩
    simp [results, Try.results24, go_sem]
  · obtain ⟨r, hr, hS⟩ : ∃ r, vis l d (l.length + 1) 0 1 (List.replicate l.length false) 0 = some r ∧ S = ⟨r.seen, r.leaves, r.es, true⟩ := by
      rcases HST.out with h | ⟨_, h⟩
      · exact h
      · have h2 := HRT.out
        rw [HSE.out, h] at h2
        simp at h2
    have hof : ofE d l = some r.es := by
      have h := HRT.out
      rw [HSE.out, hS] at h
      simp only [Bool.true_and] at h
      rw [eq_comm, Bool.and_eq_true] at h
      have hl : r.seen.length = l.length := by have := HS1.out.seen; rw [HSE.out, hS] at this; exact this
      refine ofE_some hr ?_ (upTo_all.1 h.2)
      rw [← allTo_all, hl]
      exact h.1
    have ho : S1.out = r.es := by rw [HSE.out, hS]
    have hdp : S1.deep = r.leaves := by rw [HSE.out, hS]
    have hov2 : OwnE w.heap.size wv ov r.es := by rw [← ho]; exact hov
    have b3 : wv.cell? ⟨b, 3, none⟩ = some (.int .i64 r.leaves) := by rw [← hdp]; exact hbk.cell 3
    obtain ⟨A2, c2, rfl, _⟩ := id (OwnE.ens hov2)
    have b2 : wv.cell? ⟨b, 2, none⟩ = some (.slice A2 r.es.length c2) := hbk.cell 2
    have HZ := Lib.hid (And.intro hr (And.intro hof (And.intro hov2 HE.out.low)))
    clear hbk hov HRT HST HSE HE HS1 ho hdp hov2 hr hof hS
    go_wp2_with fail
    go_quiet (fail)
    go_wp2_with fail
    refine bodyPost_ret (v := .tuple #[.slice A2 r.es.length c2, .int .i64 r.leaves, .int .i64 0]) ?_ rfl ⟨below_drewN HZ.out.2.2.2 _, .inl ⟨r, A2, c2, HZ.out.1, HZ.out.2.1, rfl, OwnE.on HZ.out.2.2.1 (below_drewN (Below.refl _ _) _)⟩⟩
    simp [results, Try.results24, go_sem]
end Go.Proofs.Ytmmikolcipcldaa
