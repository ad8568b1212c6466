/-
  What is proved here: the law TreeSorts returns true for every degree and every list of keys. Conditions: none.
-/
import Derived.Test.YtmmikolcipcldaaTreeSortLaws
import Derived.Test.YtmmikolcipcldaaRows
import Derived.Test.YtmmikolcipcldaaFHeld
import Derived.TacticsInMore
namespace Go.Proofs.Ytmmikolcipcldaa
namespace TreeSorts
open Go.ChangeShapes Go.WideShapes Go.ChangeAt Go.RowKit Go.Deep

theorem eq_no {a b c d : Int} (h : (⟨a, b⟩ : Ky) ≠ ⟨c, d⟩) (w : World) : (binOp .eql 24 (.agg #[.int .i64 a, .int .i64 b]) (.agg #[.int .i64 c, .int .i64 d])).run Try.prog w = .ok (.bool false) w := by
  rw [eq_key, show (decide (a = c) && decide (b = d)) = false by
    rw [← Bool.decide_and, decide_eq_false_iff_not]
    rintro ⟨rfl, rfl⟩
    exact h rfl]
theorem ne_same (a b : Int) (w : World) : (binOp .neq 24 (.agg #[.int .i64 a, .int .i64 b]) (.agg #[.int .i64 a, .int .i64 b])).run Try.prog w = .ok (.bool false) w := by
  rw [ne_key]; simp
/-- the list of keys, the tree, what was gathered: in every world behind. -/
structure Sees (w : World) (tr d : Nat) (ks : List Ky) (A : Option Addr) (c : Nat) (A6 : Option Addr) (c6 : Nat) (G : List En) (W : World) : Prop where
  has : Has w.heap.size w tr d (filE ks ks.length) W
  got : EnsAt W (.slice A6 G.length c6) G
theorem Sees.on {w W W' : World} {tr d : Nat} {ks : List Ky} {A : Option Addr} {c : Nat} {A6 : Option Addr} {c6 : Nat} {G : List En} (h : Sees w tr d ks A c A6 c6 G W) (hb : Below W.heap.size W W') : Sees w tr d ks A c A6 c6 G W' := ⟨h.has.on hb, h.got.on hb (Nat.le_refl _)⟩

set_option maxRecDepth 100000 in
set_option maxHeartbeats 1000000 in
theorem walk (deg : Int) (v : Value) (L : List Ky) (w : World) (h1 : I64 deg) (hk : KsAt w v L) (hok : ∀ i, i < L.length → KyOk (L.getD i k0)) (hlen : L.length ≤ 140737488351232) :
    Calls Try.prog 4 #[.int .i64 deg, v] w fun e w' => e = .returned (.bool true) ∧ Below w.heap.size w w' := by
  have HK := Lib.hid hk
  obtain ⟨A, cp, rfl, hcp, hx⟩ := hk
  clear hx
  have HOK := Lib.hid hok
  have H1 := Lib.hid h1
  clear hok h1
  go_enter Try.func4, Try.ntmps4
  go_upto_if 16 with fail
  go_cut [1] (fun s wx => w = wx ∧ ∃ A c ks, s = .slice A ks.length c ∧ KsAt w (.slice A ks.length c) ks ∧ ks.length ≤ 600 ∧ (∀ i, i < ks.length → KyOk (ks.getD i k0)))
  case first =>
    by_cases hl : L.length ≤ 600
    · have hl1 : ¬ (600 : Int) < (L.length : Int) := by omega
      go_wp2_with fail
      go_meet
      exact ⟨rfl, A, cp, L, rfl, HK.out, hl, HOK.out⟩
    · have hl1 : (600 : Int) < (L.length : Int) := by omega
      have hl2 : 600 ≤ L.length := by omega
      have hl3 : 600 ≤ cp := by omega
      go_wp2_with fail
      go_meet
      have hl4 : (L.take 600).length = 600 := by rw [List.length_take]; omega
      refine ⟨rfl, A, cp, L.take 600, by rw [hl4], by rw [hl4]; exact HK.out.take hl2, by omega, fun i hi => ?_⟩
      rw [hl4] at hi
      rw [take_getD (by omega)]
      exact HOK.out i (by omega)
  clear HK HOK hcp hlen
  clear A cp L
  obtain ⟨rfl, A, c, ks, rfl, hks, hk6, hko⟩ := hcut
  obtain ⟨d, hd⟩ : ∃ d : Nat, (d : Int) = 2 + deg % 15 := ⟨(2 + deg % 15).toNat, by have := Int.emod_nonneg deg (show (15 : Int) ≠ 0 by omega); omega⟩
  have HF := Lib.hid (filled_any hks hk6 H1.out.1 H1.out.2 hd)
  have HD := Lib.hid (show d ≤ 16 by have := Int.emod_lt_of_pos deg (show (0 : Int) < 15 by omega); omega)
  have HL := Lib.hid (show (filE ks ks.length).length ≤ 600 from Nat.le_trans (filE_len ks _) hk6)
  have HGL := Lib.hid (good_len hko)
  have HKS := Lib.hid (show 0 < ks.length → ∃ g o, A = some ⟨g, o, none⟩ ∧ g < w.heap.size ∧ ∀ W, Below w.heap.size w W → ∀ i, i < ks.length → W.cell? ⟨g, o + i * 2, none⟩ = some (.int .i64 (ks.getD i k0).t) ∧ W.cell? ⟨g, o + i * 2 + 1, none⟩ = some (.int .i64 (ks.getD i k0).s) from fun hp => by
    obtain ⟨A', c', heq, _, hA⟩ := hks
    cases heq
    obtain ⟨g, o, h1, h2, h3⟩ := hA hp
    refine ⟨g, o, h1, h2, fun W hb i hi => ?_⟩
    rw [hb.cell (p := ⟨g, _, none⟩) h2, hb.cell (p := ⟨g, _, none⟩) h2]
    exact h3 i hi)
  clear hks hko hd
  go_upto_region 6 with (go_at_call 16; (with_reducible refine Calls.mono HF.out ?_); rintro e w1 ⟨tr, rfl, hH⟩)
  clear HF
  obtain ⟨G, hG⟩ : ∃ G, G = ranged kLeast kGreat (filE ks ks.length) := ⟨_, rfl⟩
  have HG := Lib.hid (And.intro hG (show G.length ≤ 600 by rw [hG, HGL.out]; exact Nat.le_trans (List.length_filter_le _ _) (by rw [List.length_range]; exact hk6)))
  have HGA := Lib.hid (hH.gath HD.out (by have := HL.out; omega))
  obtain ⟨wa, rfl⟩ : ∃ wq : World, wq = w1 := ⟨_, rfl⟩
  go_cut [6] (fun s wz => ∃ A6 c6, s = .slice A6 G.length c6 ∧ Sees w tr d ks A c A6 c6 G wz)
  case first =>
    go_wp2_with (first
      | (go_at_call 18; (with_reducible refine Calls.mono (least_any _) ?_); rintro e wk ⟨rfl, hbk⟩)
      | (go_at_call 19; (with_reducible refine Calls.mono (greatest_any _) ?_); rintro e wl ⟨rfl, hbl⟩))
    have hK := Has.on (Has.on hH hbk) hbl
    refine Calls.mono (hK.gath HD.out (by have := HL.out; omega) kLeast kGreat) ?_
    rintro e wp ⟨A1, c1, rfl, hc1, hv1, hH1, hb1⟩
    rw [← hG] at hv1 ⊢
    clear hK hbk hbl hb1 hH hG
    go_wp2_with fail
    go_meet
    exact ⟨A1, c1, rfl, hH1, hv1⟩
  clear hH hG HGA
  obtain ⟨A6, c6, rfl, hS⟩ := hcut
  obtain ⟨wg, rfl⟩ : ∃ wq : World, wq = wc := ⟨_, rfl⟩
  have HS := Lib.hid hS
  clear hS
  go_wp2_with fail
  go_loopg [8] G.length (fun g i wr => ∃ x : Nat, x ≤ G.length ∧ g = G.length - x ∧ i = .int .i64 x ∧ Sees w tr d ks A c A6 c6 G wr)
  case atStart => exact ⟨0, Nat.zero_le _, rfl, rfl, HS.out⟩
  case round =>
    clear HS
    obtain ⟨x, hx, rfl, rfl, hS⟩ := hrel
    by_cases hlt : x < G.length
    · have hki : (x : Int) < (G.length : Int) := by omega
      have hk0 : (0 : Int) ≤ (x : Int) := by omega
      have hbw := hS.has.bel
      obtain ⟨j, hj, hlast⟩ := (show ∃ j : Nat, G.getD x e0 = (ks.getD j k0, (j : Int)) ∧ Last ks ks.length j from by rw [HG.out.1]; exact got_at (by rw [← HG.out.1]; exact hlt))
      have hjn : j < ks.length := hlast.1
      obtain ⟨q, hq⟩ : ∃ q, q = ks.getD j k0 := ⟨_, rfl⟩
      obtain ⟨kb, ko, rfl, hkb, hkc⟩ := HKS.out (by omega)
      obtain ⟨A', c', heq, hGc, _, hgot⟩ := hS.got
      cases heq
      obtain ⟨gb, go, rfl, hgb, hgc⟩ := hgot (by omega)
      have HKC := Lib.hid (fun W (h : Sees w tr d ks (some ⟨kb, ko, none⟩) c (some ⟨gb, go, none⟩) c6 G W) => hkc W h.has.bel)
      have HGC := Lib.hid (show ∀ W, Below wr.heap.size wr W → ∀ i, i < G.length → W.cell? ⟨gb, go + i * 3, none⟩ = some (.int .i64 (G.getD i e0).1.t) ∧ W.cell? ⟨gb, go + i * 3 + 1, none⟩ = some (.int .i64 (G.getD i e0).1.s) ∧ W.cell? ⟨gb, go + i * 3 + 2, none⟩ = some (.int .i64 (G.getD i e0).2) from fun W hb i hi => by
        have e := fun j => hb.cell (p := ⟨gb, j, none⟩) hgb
        rw [e, e, e]
        exact hgc i hi)
      clear hkc hgc hgot
      obtain ⟨g0, g1, g2⟩ := HGC.out wr (Below.refl _ _) x hlt
      rw [hj, ← hq] at g0 g1 g2
      obtain ⟨c0, c1⟩ := HKC.out wr hS j hjn
      rw [← hq] at c0 c1
      obtain ⟨q1, q2⟩ := q
      have hji : (j : Int) < (ks.length : Int) := by omega
      have hj0 : (0 : Int) ≤ (j : Int) := by omega
      have hj1 : ¬ (j : Int) < 0 := by omega
      have hj2 : ¬ (ks.length : Int) ≤ (j : Int) := by omega
      have hns := fun W => ne_same q1 q2 W
      have HJ := Lib.hid hj
      have HLA := Lib.hid hlast
      have HQ := Lib.hid hq
      have HBW := Lib.hid hbw
      have HSS := Lib.hid hS
      clear hj hlast hq hbw hS
      go_upto_region 12 with fail
      clear g2
      go_cut [77] (fun s wz => s = .bool false ∧ Sees w tr d ks (some ⟨kb, ko, none⟩) c (some ⟨gb, go, none⟩) c6 G wz)
      case first =>
        rcases Nat.eq_zero_or_pos x with hx0 | hx0
        · have hpos : ¬ (0 : Int) < (x : Int) := by omega
          have hx1 : ¬ 0 < x := by omega
          have HSW := Lib.hid (show ∀ W, Below wr.heap.size wr W → (W.cell? ⟨kb, ko + j * 2, none⟩ = some (.int .i64 q1) ∧ W.cell? ⟨kb, ko + j * 2 + 1, none⟩ = some (.int .i64 q2) ∧ W.cell? ⟨gb, go + x * 3, none⟩ = some (.int .i64 q1) ∧ W.cell? ⟨gb, go + x * 3 + 1, none⟩ = some (.int .i64 q2)) from fun W hb => by
            obtain ⟨g0, g1, _⟩ := HGC.out W hb x hlt
            obtain ⟨c0, c1⟩ := HKC.out W (HSS.out.on hb) j hjn
            rw [HJ.out, ← HQ.out] at g0 g1
            rw [← HQ.out] at c0 c1
            exact ⟨c0, c1, g0, g1⟩)
          clear g0 g1 c0 c1 hx0
          refine (wpIn_wide (n := 0)).1 ?_
          refine anyS_region (S := (fun W => W.cell? ⟨kb, ko + j * 2, none⟩ = some (.int .i64 q1) ∧ W.cell? ⟨kb, ko + j * 2 + 1, none⟩ = some (.int .i64 q2) ∧ W.cell? ⟨gb, go + x * 3, none⟩ = some (.int .i64 q1) ∧ W.cell? ⟨gb, go + x * 3 + 1, none⟩ = some (.int .i64 q2))) 39 (by kernel_rfl) ?_ (fun hHeld => ?_)
          · exact HSW.out _ (below_drewN (Below.refl _ _) 1)
          refine anyS_take (i := 0) (v := ?_) (by (simp only [List.getElem?_toArray, List.getElem?_cons_zero]); exact rfl) (by kernel_rfl) (by kernel_rfl) (by kernel_rfl) (by kernel_rfl) (by decide) (by intro _ _ _ h; exact h) (Or.inl ⟨by rfl, ?_⟩) (by assumption) ?_
          rotate_left
          · (intro w hSw; (try dsimp only at hSw); go_simp; (try with_reducible rfl))
          try simp only [Act.put, List.setIfInBounds_toArray, List.set_cons_zero, List.set_cons_succ]
          refine anyS_take (i := 1) (v := ?_) (by (simp only [List.getElem?_toArray, List.getElem?_cons_zero, List.getElem?_cons_succ]); exact rfl) (by kernel_rfl) (by kernel_rfl) (by kernel_rfl) (by kernel_rfl) (by decide) (by intro _ _ _ h; exact h) (Or.inl ⟨by rfl, ?_⟩) (by assumption) ?_
          rotate_left
          · (intro w hSw; (try dsimp only at hSw); go_simp; (try with_reducible rfl))
          try simp only [Act.put, List.setIfInBounds_toArray, List.set_cons_zero, List.set_cons_succ]
          refine anyS_take (i := 2) (v := ?_) (by (simp only [List.getElem?_toArray, List.getElem?_cons_zero, List.getElem?_cons_succ]); exact rfl) (by kernel_rfl) (by kernel_rfl) (by kernel_rfl) (by kernel_rfl) (by decide) (by intro _ _ _ h; exact h) (Or.inl ⟨by rfl, ?_⟩) (by assumption) ?_
          rotate_left
          · (intro w hSw; (try dsimp only at hSw); go_simp; (try with_reducible rfl))
          try simp only [Act.put, List.setIfInBounds_toArray, List.set_cons_zero, List.set_cons_succ]
          refine anyS_take (i := 3) (v := ?_) (by (simp only [List.getElem?_toArray, List.getElem?_cons_zero, List.getElem?_cons_succ]); exact rfl) (by kernel_rfl) (by kernel_rfl) (by kernel_rfl) (by kernel_rfl) (by decide) (by intro _ _ _ h; exact h) (Or.inl ⟨by rfl, ?_⟩) (by assumption) ?_
          rotate_left
          · (intro w hSw; (try dsimp only at hSw); go_simp; (try with_reducible rfl))
          try simp only [Act.put, List.setIfInBounds_toArray, List.set_cons_zero, List.set_cons_succ]
          refine anyS_take (i := 4) (v := ?_) (by (simp only [List.getElem?_toArray, List.getElem?_cons_zero, List.getElem?_cons_succ]); exact rfl) (by kernel_rfl) (by kernel_rfl) (by kernel_rfl) (by kernel_rfl) (by decide) (by intro _ _ _ h; exact h) (Or.inl ⟨by rfl, ?_⟩) (by assumption) ?_
          rotate_left
          · (intro w hSw; (try dsimp only at hSw); go_simp; (try with_reducible rfl))
          try simp only [Act.put, List.setIfInBounds_toArray, List.set_cons_zero, List.set_cons_succ]
          refine anyS_take (i := 5) (v := ?_) (by (simp only [List.getElem?_toArray, List.getElem?_cons_zero, List.getElem?_cons_succ]); exact rfl) (by kernel_rfl) (by kernel_rfl) (by kernel_rfl) (by kernel_rfl) (by decide) (by intro _ _ _ h; exact h) (Or.inl ⟨by rfl, ?_⟩) (by assumption) ?_
          rotate_left
          · (intro w hSw; (try dsimp only at hSw); go_simp; (try with_reducible rfl))
          try simp only [Act.put, List.setIfInBounds_toArray, List.set_cons_zero, List.set_cons_succ]
          refine anyS_take (i := 6) (v := ?_) (by (simp only [List.getElem?_toArray, List.getElem?_cons_zero, List.getElem?_cons_succ]); exact rfl) (by kernel_rfl) (by kernel_rfl) (by kernel_rfl) (by kernel_rfl) (by decide) (by intro _ _ _ h; exact h) (Or.inl ⟨by rfl, ?_⟩) (by assumption) ?_
          rotate_left
          · (intro w hSw; (try dsimp only at hSw); go_simp; (try with_reducible rfl))
          try simp only [Act.put, List.setIfInBounds_toArray, List.set_cons_zero, List.set_cons_succ]
          refine anyS_take (i := 7) (v := ?_) (by (simp only [List.getElem?_toArray, List.getElem?_cons_zero, List.getElem?_cons_succ]); exact rfl) (by kernel_rfl) (by kernel_rfl) (by kernel_rfl) (by kernel_rfl) (by decide) (by intro _ _ _ h; exact h) (Or.inl ⟨by rfl, ?_⟩) (by assumption) ?_
          rotate_left
          · (intro w hSw; (try dsimp only at hSw); go_simp; (try with_reducible rfl))
          try simp only [Act.put, List.setIfInBounds_toArray, List.set_cons_zero, List.set_cons_succ]
          refine anyS_take (i := 8) (v := ?_) (by (simp only [List.getElem?_toArray, List.getElem?_cons_zero, List.getElem?_cons_succ]); exact rfl) (by kernel_rfl) (by kernel_rfl) (by kernel_rfl) (by kernel_rfl) (by decide) (by intro _ _ _ h; exact h) (Or.inl ⟨by rfl, ?_⟩) (by assumption) ?_
          rotate_left
          · (intro w hSw; (try dsimp only at hSw); go_simp; (try with_reducible rfl))
          try simp only [Act.put, List.setIfInBounds_toArray, List.set_cons_zero, List.set_cons_succ]
          refine anyS_take (i := 9) (v := ?_) (by (simp only [List.getElem?_toArray, List.getElem?_cons_zero, List.getElem?_cons_succ]); exact rfl) (by kernel_rfl) (by kernel_rfl) (by kernel_rfl) (by kernel_rfl) (by decide) (by intro _ _ _ h; exact h) (Or.inl ⟨by rfl, ?_⟩) (by assumption) ?_
          rotate_left
          · (intro w hSw; (try dsimp only at hSw); go_simp; (try with_reducible rfl))
          try simp only [Act.put, List.setIfInBounds_toArray, List.set_cons_zero, List.set_cons_succ]
          refine anyS_take (i := 10) (v := ?_) (by (simp only [List.getElem?_toArray, List.getElem?_cons_zero, List.getElem?_cons_succ]); exact rfl) (by kernel_rfl) (by kernel_rfl) (by kernel_rfl) (by kernel_rfl) (by decide) (by intro _ _ _ h; exact h) (Or.inl ⟨by rfl, ?_⟩) (by assumption) ?_
          rotate_left
          · (intro w hSw; (try dsimp only at hSw); go_simp; (try with_reducible rfl))
          try simp only [Act.put, List.setIfInBounds_toArray, List.set_cons_zero, List.set_cons_succ]
          refine anyS_take (i := 11) (v := ?_) (by (simp only [List.getElem?_toArray, List.getElem?_cons_zero, List.getElem?_cons_succ]); exact rfl) (by kernel_rfl) (by kernel_rfl) (by kernel_rfl) (by kernel_rfl) (by decide) (by intro _ _ _ h; exact h) (Or.inl ⟨by rfl, ?_⟩) (by assumption) ?_
          rotate_left
          · (intro w hSw; (try dsimp only at hSw); go_simp; (try with_reducible rfl))
          try simp only [Act.put, List.setIfInBounds_toArray, List.set_cons_zero, List.set_cons_succ]
          refine anyS_take (i := 12) (v := ?_) (by (simp only [List.getElem?_toArray, List.getElem?_cons_zero, List.getElem?_cons_succ]); exact rfl) (by kernel_rfl) (by kernel_rfl) (by kernel_rfl) (by kernel_rfl) (by decide) (by intro _ _ _ h; exact h) (Or.inl ⟨by rfl, ?_⟩) (by assumption) ?_
          rotate_left
          · (intro w hSw; (try dsimp only at hSw); go_simp; (try with_reducible rfl))
          try simp only [Act.put, List.setIfInBounds_toArray, List.set_cons_zero, List.set_cons_succ]
          refine anyS_take (i := 13) (v := ?_) (by (simp only [List.getElem?_toArray, List.getElem?_cons_zero, List.getElem?_cons_succ]); exact rfl) (by kernel_rfl) (by kernel_rfl) (by kernel_rfl) (by kernel_rfl) (by decide) (by intro _ _ _ h; exact h) (Or.inl ⟨by rfl, ?_⟩) (by assumption) ?_
          rotate_left
          · (intro w hSw; (try dsimp only at hSw); go_simp; (try with_reducible rfl))
          try simp only [Act.put, List.setIfInBounds_toArray, List.set_cons_zero, List.set_cons_succ]
          refine anyS_take (i := 14) (v := ?_) (by (simp only [List.getElem?_toArray, List.getElem?_cons_zero, List.getElem?_cons_succ]); exact rfl) (by kernel_rfl) (by kernel_rfl) (by kernel_rfl) (by kernel_rfl) (by decide) (by intro _ _ _ h; exact h) (Or.inl ⟨by rfl, ?_⟩) (by assumption) ?_
          rotate_left
          · (intro w hSw; (try dsimp only at hSw); go_simp; (try with_reducible rfl))
          try simp only [Act.put, List.setIfInBounds_toArray, List.set_cons_zero, List.set_cons_succ]
          refine anyS_take (i := 15) (v := ?_) (by (simp only [List.getElem?_toArray, List.getElem?_cons_zero, List.getElem?_cons_succ]); exact rfl) (by kernel_rfl) (by kernel_rfl) (by kernel_rfl) (by kernel_rfl) (by decide) (by intro _ _ _ h; exact h) (Or.inl ⟨by rfl, ?_⟩) (by assumption) ?_
          rotate_left
          · (intro w hSw; (try dsimp only at hSw); go_simp; (try with_reducible rfl))
          try simp only [Act.put, List.setIfInBounds_toArray, List.set_cons_zero, List.set_cons_succ]
          refine anyS_take (i := 16) (v := ?_) (by (simp only [List.getElem?_toArray, List.getElem?_cons_zero, List.getElem?_cons_succ]); exact rfl) (by kernel_rfl) (by kernel_rfl) (by kernel_rfl) (by kernel_rfl) (by decide) (by intro _ _ _ h; exact h) (Or.inl ⟨by rfl, ?_⟩) (by assumption) ?_
          rotate_left
          · (intro w hSw; (try dsimp only at hSw); go_simp; (try with_reducible rfl))
          try simp only [Act.put, List.setIfInBounds_toArray, List.set_cons_zero, List.set_cons_succ]
          refine anyS_take (i := 17) (v := ?_) (by (simp only [List.getElem?_toArray, List.getElem?_cons_zero, List.getElem?_cons_succ]); exact rfl) (by kernel_rfl) (by kernel_rfl) (by kernel_rfl) (by kernel_rfl) (by decide) (by intro _ _ _ h; exact h) (Or.inl ⟨by rfl, ?_⟩) (by assumption) ?_
          rotate_left
          · (intro w hSw; (try dsimp only at hSw); go_simp; (try with_reducible rfl))
          try simp only [Act.put, List.setIfInBounds_toArray, List.set_cons_zero, List.set_cons_succ]
          refine anyS_take (i := 18) (v := ?_) (by (simp only [List.getElem?_toArray, List.getElem?_cons_zero, List.getElem?_cons_succ]); exact rfl) (by kernel_rfl) (by kernel_rfl) (by kernel_rfl) (by kernel_rfl) (by decide) (by intro _ _ _ h; exact h) (Or.inl ⟨by rfl, ?_⟩) (by assumption) ?_
          rotate_left
          · (intro w hSw; (try dsimp only at hSw); go_simp; (try with_reducible rfl))
          try simp only [Act.put, List.setIfInBounds_toArray, List.set_cons_zero, List.set_cons_succ]
          refine anyS_take (i := 19) (v := ?_) (by (simp only [List.getElem?_toArray, List.getElem?_cons_zero, List.getElem?_cons_succ]); exact rfl) (by kernel_rfl) (by kernel_rfl) (by kernel_rfl) (by kernel_rfl) (by decide) (by intro _ _ _ h; exact h) (Or.inl ⟨by rfl, ?_⟩) (by assumption) ?_
          rotate_left
          · (intro w hSw; (try dsimp only at hSw); go_simp; (try with_reducible rfl))
          try simp only [Act.put, List.setIfInBounds_toArray, List.set_cons_zero, List.set_cons_succ]
          refine anyS_take (i := 20) (v := ?_) (by (simp only [List.getElem?_toArray, List.getElem?_cons_zero, List.getElem?_cons_succ]); exact rfl) (by kernel_rfl) (by kernel_rfl) (by kernel_rfl) (by kernel_rfl) (by decide) (by intro _ _ _ h; exact h) (Or.inl ⟨by rfl, ?_⟩) (by assumption) ?_
          rotate_left
          · (intro w hSw; (try dsimp only at hSw); go_simp; (try with_reducible rfl))
          try simp only [Act.put, List.setIfInBounds_toArray, List.set_cons_zero, List.set_cons_succ]
          refine anyS_take (i := 21) (v := ?_) (by (simp only [List.getElem?_toArray, List.getElem?_cons_zero, List.getElem?_cons_succ]); exact rfl) (by kernel_rfl) (by kernel_rfl) (by kernel_rfl) (by kernel_rfl) (by decide) (by intro _ _ _ h; exact h) (Or.inl ⟨by rfl, ?_⟩) (by assumption) ?_
          rotate_left
          · (intro w hSw; (try dsimp only at hSw); go_simp; (try with_reducible rfl))
          try simp only [Act.put, List.setIfInBounds_toArray, List.set_cons_zero, List.set_cons_succ]
          refine anyS_take (i := 22) (v := ?_) (by (simp only [List.getElem?_toArray, List.getElem?_cons_zero, List.getElem?_cons_succ]); exact rfl) (by kernel_rfl) (by kernel_rfl) (by kernel_rfl) (by kernel_rfl) (by decide) (by intro _ _ _ h; exact h) (Or.inl ⟨by rfl, ?_⟩) (by assumption) ?_
          rotate_left
          · (intro w hSw; (try dsimp only at hSw); go_simp; (try with_reducible rfl))
          try simp only [Act.put, List.setIfInBounds_toArray, List.set_cons_zero, List.set_cons_succ]
          refine anyS_take (i := 23) (v := ?_) (by (simp only [List.getElem?_toArray, List.getElem?_cons_zero, List.getElem?_cons_succ]); exact rfl) (by kernel_rfl) (by kernel_rfl) (by kernel_rfl) (by kernel_rfl) (by decide) (by intro _ _ _ h; exact h) (Or.inl ⟨by rfl, ?_⟩) (by assumption) ?_
          rotate_left
          · (intro w hSw; (try dsimp only at hSw); go_simp; (try with_reducible rfl))
          try simp only [Act.put, List.setIfInBounds_toArray, List.set_cons_zero, List.set_cons_succ]
          refine anyS_take (i := 24) (v := undef) (by (simp only [List.getElem?_toArray, List.getElem?_cons_zero, List.getElem?_cons_succ]); exact rfl) (by kernel_rfl) (by kernel_rfl) (by kernel_rfl) (by kernel_rfl) (by decide) (by intro _ _ _ h; exact h) (Or.inr ⟨by rfl, rfl⟩) (by assumption) ?_
          try simp only [Act.put, List.setIfInBounds_toArray, List.set_cons_zero, List.set_cons_succ]
          refine anyS_take (i := 25) (v := undef) (by (simp only [List.getElem?_toArray, List.getElem?_cons_zero, List.getElem?_cons_succ]); exact rfl) (by kernel_rfl) (by kernel_rfl) (by kernel_rfl) (by kernel_rfl) (by decide) (by intro _ _ _ h; exact h) (Or.inr ⟨by rfl, rfl⟩) (by assumption) ?_
          try simp only [Act.put, List.setIfInBounds_toArray, List.set_cons_zero, List.set_cons_succ]
          refine anyS_take (i := 26) (v := undef) (by (simp only [List.getElem?_toArray, List.getElem?_cons_zero, List.getElem?_cons_succ]); exact rfl) (by kernel_rfl) (by kernel_rfl) (by kernel_rfl) (by kernel_rfl) (by decide) (by intro _ _ _ h; exact h) (Or.inr ⟨by rfl, rfl⟩) (by assumption) ?_
          try simp only [Act.put, List.setIfInBounds_toArray, List.set_cons_zero, List.set_cons_succ]
          refine anyS_take (i := 27) (v := undef) (by (simp only [List.getElem?_toArray, List.getElem?_cons_zero, List.getElem?_cons_succ]); exact rfl) (by kernel_rfl) (by kernel_rfl) (by kernel_rfl) (by kernel_rfl) (by decide) (by intro _ _ _ h; exact h) (Or.inr ⟨by rfl, rfl⟩) (by assumption) ?_
          try simp only [Act.put, List.setIfInBounds_toArray, List.set_cons_zero, List.set_cons_succ]
          refine anyS_take (i := 28) (v := undef) (by (simp only [List.getElem?_toArray, List.getElem?_cons_zero, List.getElem?_cons_succ]); exact rfl) (by kernel_rfl) (by kernel_rfl) (by kernel_rfl) (by kernel_rfl) (by decide) (by intro _ _ _ h; exact h) (Or.inr ⟨by rfl, rfl⟩) (by assumption) ?_
          try simp only [Act.put, List.setIfInBounds_toArray, List.set_cons_zero, List.set_cons_succ]
          refine anyS_take (i := 29) (v := undef) (by (simp only [List.getElem?_toArray, List.getElem?_cons_zero, List.getElem?_cons_succ]); exact rfl) (by kernel_rfl) (by kernel_rfl) (by kernel_rfl) (by kernel_rfl) (by decide) (by intro _ _ _ h; exact h) (Or.inr ⟨by rfl, rfl⟩) (by assumption) ?_
          try simp only [Act.put, List.setIfInBounds_toArray, List.set_cons_zero, List.set_cons_succ]
          refine anyS_take (i := 30) (v := undef) (by (simp only [List.getElem?_toArray, List.getElem?_cons_zero, List.getElem?_cons_succ]); exact rfl) (by kernel_rfl) (by kernel_rfl) (by kernel_rfl) (by kernel_rfl) (by decide) (by intro _ _ _ h; exact h) (Or.inr ⟨by rfl, rfl⟩) (by assumption) ?_
          try simp only [Act.put, List.setIfInBounds_toArray, List.set_cons_zero, List.set_cons_succ]
          refine anyS_take (i := 31) (v := undef) (by (simp only [List.getElem?_toArray, List.getElem?_cons_zero, List.getElem?_cons_succ]); exact rfl) (by kernel_rfl) (by kernel_rfl) (by kernel_rfl) (by kernel_rfl) (by decide) (by intro _ _ _ h; exact h) (Or.inr ⟨by rfl, rfl⟩) (by assumption) ?_
          try simp only [Act.put, List.setIfInBounds_toArray, List.set_cons_zero, List.set_cons_succ]
          refine anyS_take (i := 32) (v := undef) (by (simp only [List.getElem?_toArray, List.getElem?_cons_zero, List.getElem?_cons_succ]); exact rfl) (by kernel_rfl) (by kernel_rfl) (by kernel_rfl) (by kernel_rfl) (by decide) (by intro _ _ _ h; exact h) (Or.inr ⟨by rfl, rfl⟩) (by assumption) ?_
          try simp only [Act.put, List.setIfInBounds_toArray, List.set_cons_zero, List.set_cons_succ]
          refine anyS_take (i := 33) (v := undef) (by (simp only [List.getElem?_toArray, List.getElem?_cons_zero, List.getElem?_cons_succ]); exact rfl) (by kernel_rfl) (by kernel_rfl) (by kernel_rfl) (by kernel_rfl) (by decide) (by intro _ _ _ h; exact h) (Or.inr ⟨by rfl, rfl⟩) (by assumption) ?_
          try simp only [Act.put, List.setIfInBounds_toArray, List.set_cons_zero, List.set_cons_succ]
          refine anyS_take (i := 34) (v := undef) (by (simp only [List.getElem?_toArray, List.getElem?_cons_zero, List.getElem?_cons_succ]); exact rfl) (by kernel_rfl) (by kernel_rfl) (by kernel_rfl) (by kernel_rfl) (by decide) (by intro _ _ _ h; exact h) (Or.inr ⟨by rfl, rfl⟩) (by assumption) ?_
          try simp only [Act.put, List.setIfInBounds_toArray, List.set_cons_zero, List.set_cons_succ]
          refine anyS_take (i := 35) (v := undef) (by (simp only [List.getElem?_toArray, List.getElem?_cons_zero, List.getElem?_cons_succ]); exact rfl) (by kernel_rfl) (by kernel_rfl) (by kernel_rfl) (by kernel_rfl) (by decide) (by intro _ _ _ h; exact h) (Or.inr ⟨by rfl, rfl⟩) (by assumption) ?_
          try simp only [Act.put, List.setIfInBounds_toArray, List.set_cons_zero, List.set_cons_succ]
          refine anyS_take (i := 36) (v := undef) (by (simp only [List.getElem?_toArray, List.getElem?_cons_zero, List.getElem?_cons_succ]); exact rfl) (by kernel_rfl) (by kernel_rfl) (by kernel_rfl) (by kernel_rfl) (by decide) (by intro _ _ _ h; exact h) (Or.inr ⟨by rfl, rfl⟩) (by assumption) ?_
          try simp only [Act.put, List.setIfInBounds_toArray, List.set_cons_zero, List.set_cons_succ]
          refine anyS_take (i := 37) (v := ?_) (by (simp only [List.getElem?_toArray, List.getElem?_cons_zero, List.getElem?_cons_succ]); exact rfl) (by kernel_rfl) (by kernel_rfl) (by kernel_rfl) (by kernel_rfl) (by decide) (by intro _ _ _ h; exact h) (Or.inl ⟨by rfl, ?_⟩) (by assumption) ?_
          rotate_left
          · (intro w hSw; (try dsimp only at hSw); go_simp; (try with_reducible rfl))
          try simp only [Act.put, List.setIfInBounds_toArray, List.set_cons_zero, List.set_cons_succ]
          refine anyS_take (i := 38) (v := ?_) (by (simp only [List.getElem?_toArray, List.getElem?_cons_zero, List.getElem?_cons_succ]); exact rfl) (by kernel_rfl) (by kernel_rfl) (by kernel_rfl) (by kernel_rfl) (by decide) (by intro _ _ _ h; exact h) (Or.inl ⟨by rfl, ?_⟩) (by assumption) ?_
          rotate_left
          · (intro w hSw; (try dsimp only at hSw); go_simp; (try with_reducible rfl))
          try simp only [Act.put, List.setIfInBounds_toArray, List.set_cons_zero, List.set_cons_succ]
          refine anyS_done (by kernel_rfl) ?_ _
          go_wp2_with fail
          go_meet
          exact ⟨rfl, HSS.out.on (below_drewN (Below.refl _ _) 1)⟩
        · obtain ⟨y, hy⟩ : ∃ y, y + 1 = x := ⟨x - 1, by omega⟩
          have hpos : (0 : Int) < (x : Int) := by omega
          obtain ⟨p, hp⟩ : ∃ p, p = (G.getD y e0).1 := ⟨_, rfl⟩
          have hup : bel p ⟨q1, q2⟩ = true := by
            have := got_up (ks := ks) (n := ks.length) (i := y) (by rw [← HG.out.1]; omega)
            rw [← HG.out.1, ← hp, hy, HJ.out, ← HQ.out] at this
            exact this
          obtain ⟨p1, p2⟩ := p
          have HSW := Lib.hid (show ∀ W, Below wr.heap.size wr W → (W.cell? ⟨kb, ko + j * 2, none⟩ = some (.int .i64 q1) ∧ W.cell? ⟨kb, ko + j * 2 + 1, none⟩ = some (.int .i64 q2) ∧ W.cell? ⟨gb, go + x * 3, none⟩ = some (.int .i64 q1) ∧ W.cell? ⟨gb, go + x * 3 + 1, none⟩ = some (.int .i64 q2) ∧ W.cell? ⟨gb, go + y * 3, none⟩ = some (.int .i64 p1) ∧ W.cell? ⟨gb, go + y * 3 + 1, none⟩ = some (.int .i64 p2)) from fun W hb => by
            obtain ⟨g0, g1, _⟩ := HGC.out W hb x hlt
            obtain ⟨g3, g4, _⟩ := HGC.out W hb y (by omega)
            obtain ⟨c0, c1⟩ := HKC.out W (HSS.out.on hb) j hjn
            rw [HJ.out, ← HQ.out] at g0 g1
            rw [← hp] at g3 g4
            rw [← HQ.out] at c0 c1
            exact ⟨c0, c1, g0, g1, g3, g4⟩)
          have HRB := Lib.hid (show ∀ W, Calls Try.prog 20 #[.agg #[.int .i64 p1, .int .i64 p2], .agg #[.int .i64 q1, .int .i64 q2]] W fun e w' => e = .returned (.bool true) ∧ Below W.heap.size W w' from fun W => (rbelow_any ⟨p1, p2⟩ ⟨q1, q2⟩ W).mono fun e w' h => ⟨by rw [h.1, hup], h.2⟩)
          have hg6 := HG.out.2
          have hyw : IntKind.i64.wrap ((x : Int) - 1) = (y : Int) := by rw [IntWalk.i64_in _ (by omega)]; omega
          have hyl : (y : Int) < (G.length : Int) := by omega
          have hy0 : (0 : Int) ≤ (y : Int) := by omega
          clear g0 g1 c0 c1 hp hup
          have HY := Lib.hid hy
          clear hy
          go_region_held3 (fun W => W.cell? ⟨kb, ko + j * 2, none⟩ = some (.int .i64 q1) ∧ W.cell? ⟨kb, ko + j * 2 + 1, none⟩ = some (.int .i64 q2) ∧ W.cell? ⟨gb, go + x * 3, none⟩ = some (.int .i64 q1) ∧ W.cell? ⟨gb, go + x * 3 + 1, none⟩ = some (.int .i64 q2) ∧ W.cell? ⟨gb, go + y * 3, none⟩ = some (.int .i64 p1) ∧ W.cell? ⟨gb, go + y * 3 + 1, none⟩ = some (.int .i64 p2))
            (first
              | exact HSW.out _ (below_drewN (Below.refl _ _) 1)
              | exact HSW.out _ hBL
              | (go_split_ands; exact HSW.out _ hBL)
              | (go_split_ands; exact HSW.out _ (by (repeat (first | (with_reducible assumption) | (with_reducible exact Below.refl _ _) | ((with_reducible refine Below.setCell ?_ ?_ _); rotate_left; · (first | omega | (simp; done) | (simp; omega) | (simp at *; omega))) | ((with_reducible refine Below.alloc ?_ ?_ _); rotate_left; · (first | omega | (simp; done) | (simp; omega) | (simp at *; omega))) | (with_reducible refine Below.drew ?_) | (with_reducible refine below_drewN ?_ _) | ((refine Below.trans ?_ (Below.mono (by with_reducible assumption) ?_)); rotate_left; · (first | omega | (simp; done) | (simp; omega) | (simp at *; omega))))))))
            (first | (go_at_call 20; (with_reducible refine Calls.mono (HRB.out _) ?_); rintro e wk ⟨rfl, hbk⟩; have hBL : Below wr.heap.size wr wk := Below.trans (below_drewN (Below.refl _ _) 1) hbk))
          all_goals
            go_wp2_with fail
            go_meet
            exact ⟨rfl, HSS.out.on hBL⟩
      obtain ⟨rfl, hS⟩ := hcut
      obtain ⟨wd, rfl⟩ : ∃ wq : World, wq = wc := ⟨_, rfl⟩
      clear g0 g1 c0 c1
      have HSD := Lib.hid hS
      have hjw : IntKind.i64.wrap ((j : Int) + 1) = (j : Int) + 1 := IntWalk.i64_in _ (by omega)
      clear hS hki hk0
      go_wp2_with fail
      go_loopg [10] (ks.length - (j + 1)) (fun g i wr => ∃ y : Nat, j < y ∧ y ≤ ks.length ∧ g = ks.length - y ∧ i = .int .i64 y ∧ Sees w tr d ks (some ⟨kb, ko, none⟩) c (some ⟨gb, go, none⟩) c6 G wr)
      case atStart => exact ⟨j + 1, Nat.lt_succ_self _, hjn, rfl, by go_num, HSD.out⟩
      case round =>
        clear HSD hjw
        obtain ⟨y, hjy, hy, rfl, rfl, hS⟩ := hrel
        by_cases hylt : y < ks.length
        · have hyi : (y : Int) < (ks.length : Int) := by omega
          have hy0 : (0 : Int) ≤ (y : Int) := by omega
          obtain ⟨r, hr⟩ : ∃ r, r = ks.getD y k0 := ⟨_, rfl⟩
          have hne : r ≠ ⟨q1, q2⟩ := by rw [hr, HQ.out]; exact HLA.out.2 y hjy hylt
          obtain ⟨c0, c1⟩ := HKC.out _ hS j hjn
          obtain ⟨d0, d1⟩ := HKC.out _ hS y hylt
          rw [← HQ.out] at c0 c1
          rw [← hr] at d0 d1
          obtain ⟨r1, r2⟩ := r
          have hqe := fun W => eq_no hne W
          have HSR := Lib.hid hS
          clear hne hr hS
          go_wp2_with fail
          go_quiet (fail)
          go_wp2_with fail
          go_roundg (ks.length - (y + 1))
          case measure => omega
          case rel => exact ⟨y + 1, by omega, by omega, rfl, by go_num, HSR.out.on (by (repeat (first | (with_reducible assumption) | (with_reducible exact Below.refl _ _) | ((with_reducible refine Below.setCell ?_ ?_ _); rotate_left; · (first | omega | (simp; done) | (simp; omega) | (simp at *; omega))) | ((with_reducible refine Below.alloc ?_ ?_ _); rotate_left; · (first | omega | (simp; done) | (simp; omega) | (simp at *; omega))) | (with_reducible refine Below.drew ?_) | (with_reducible refine below_drewN ?_ _) | ((refine Below.trans ?_ (Below.mono (by with_reducible assumption) ?_)); rotate_left; · (first | omega | (simp; done) | (simp; omega) | (simp at *; omega))))))⟩
        · obtain rfl : y = ks.length := by omega
          have hyi : ¬ (ks.length : Int) < (ks.length : Int) := by omega
          have HSR := Lib.hid hS
          have hg6 := HG.out.2
          clear hS
          go_wp2_with fail
          go_roundg (G.length - (x + 1))
          case measure => omega
          case rel => exact ⟨x + 1, by omega, rfl, by go_num, HSR.out⟩
    · obtain rfl : x = G.length := by omega
      have hki : ¬ (G.length : Int) < (G.length : Int) := by omega
      have HS := Lib.hid hS
      clear hS
      go_wp2_with fail
      go_loopg [7, 11] ks.length (fun g s7 i wr => ∃ x : Nat, x ≤ ks.length ∧ g = ks.length - x ∧ s7 = .int .i64 ((List.range x).filter (good ks ks.length)).length ∧ i = .int .i64 x ∧ Sees w tr d ks A c A6 c6 G wr)
      case atStart => exact ⟨0, Nat.zero_le _, rfl, rfl, rfl, HS.out⟩
      case round =>
        clear HS
        obtain ⟨x, hx, rfl, rfl, rfl, hS⟩ := hrel
        by_cases hlt : x < ks.length
        · have hki : (x : Int) < (ks.length : Int) := by omega
          have hk0 : (0 : Int) ≤ (x : Int) := by omega
          obtain ⟨kb, ko, rfl, hkb, hkc⟩ := HKS.out (by omega)
          have HKC := Lib.hid (fun W (h : Sees w tr d ks (some ⟨kb, ko, none⟩) c A6 c6 G W) => hkc W h.has.bel)
          obtain ⟨j, hxj, hjn, hjx, hha, hva, hjl⟩ := filE_get (ks := ks) hlt
          obtain ⟨q, hq⟩ : ∃ q, q = ks.getD x k0 := ⟨_, rfl⟩
          have hgood : good ks ks.length x = (decide (j = x) && decide (q ≠ kGreat)) := by
            unfold good
            rw [hva, ← hq]
            congr 1
            rw [decide_eq_decide]
            omega
          obtain ⟨c0, c1⟩ := HKC.out _ hS x hlt
          rw [← hq] at c0 c1 hha hva hjx
          obtain ⟨q1, q2⟩ := q
          have HGT := Lib.hid (hS.has.getIs HD.out hva hha)
          have HSX := Lib.hid hS
          have HQ := Lib.hid (And.intro hq hjx)
          have HGD := Lib.hid hgood
          clear hS hkc hq hjx hgood hha hva hjl
          go_upto_region 23 with (go_at_call 21; (with_reducible refine Calls.mono HGT.out ?_); rintro e w1 ⟨rfl, hb1⟩)
          have hS := HSX.out.on hb1
          clear HSX HGT hb1 c0 c1
          obtain ⟨wd, rfl⟩ : ∃ wq : World, wq = w1 := ⟨_, rfl⟩
          have hji : (j : Int) < (ks.length : Int) := by omega
          have hj0 : (0 : Int) ≤ (j : Int) := by omega
          have hj1 : ¬ (j : Int) < (x : Int) := by omega
          obtain ⟨c0, c1⟩ := HKC.out _ hS x hlt
          obtain ⟨d0, d1⟩ := HKC.out _ hS j hjn
          rw [← HQ.out.1] at c0 c1
          rw [HQ.out.2] at d0 d1
          have hns := fun W => ne_same q1 q2 W
          have HSX := Lib.hid hS
          clear hS
          go_upto_region 23 with fail
          go_cut [127] (fun s wz => s = .bool false ∧ Sees w tr d ks (some ⟨kb, ko, none⟩) c A6 c6 G wz)
          case first =>
            go_quiet (fail)
            go_wp2_with fail
            go_meet
            exact ⟨rfl, HSX.out.on (by (repeat (first | (with_reducible assumption) | (with_reducible exact Below.refl _ _) | ((with_reducible refine Below.setCell ?_ ?_ _); rotate_left; · (first | omega | (simp; done) | (simp; omega) | (simp at *; omega))) | ((with_reducible refine Below.alloc ?_ ?_ _); rotate_left; · (first | omega | (simp; done) | (simp; omega) | (simp at *; omega))) | (with_reducible refine Below.drew ?_) | (with_reducible refine below_drewN ?_ _) | ((refine Below.trans ?_ (Below.mono (by with_reducible assumption) ?_)); rotate_left; · (first | omega | (simp; done) | (simp; omega) | (simp at *; omega))))))⟩
          obtain ⟨rfl, hS⟩ := hcut
          clear d0 d1 hns hj1 c0 c1 HSX
          obtain ⟨wf, rfl⟩ : ∃ wq : World, wq = wc := ⟨_, rfl⟩
          have HSY := Lib.hid hS
          clear hS
          go_upto_region 25 with fail
          obtain ⟨b, hb⟩ : ∃ b, b = good ks ks.length x := ⟨_, rfl⟩
          go_cut [138] (fun s wz => s = .bool b ∧ Sees w tr d ks (some ⟨kb, ko, none⟩) c A6 c6 G wz)
          case first =>
            rcases Nat.eq_or_lt_of_le hxj with hjx | hjx
            · have hjb : ((j : Int) == (x : Int)) = true := beq_iff_eq.2 (by omega)
              have hbb : decide ((⟨q1, q2⟩ : Ky) ≠ kGreat) = b := by rw [hb, HGD.out, decide_eq_true hjx.symm, Bool.true_and]
              have hnk : ∀ W, (binOp .neq 24 (.agg #[.int .i64 q1, .int .i64 q2]) (.agg kGreat.cells)).run Try.prog W = .ok (.bool b) W := fun W => by
                rw [← hbb]
                refine (ne_key q1 q2 _ _ W).trans ?_
                congr 2
                rw [← Bool.decide_and, ← decide_not, decide_eq_decide]
                exact not_congr ⟨fun h => by obtain ⟨h1, h2⟩ := h; subst h1 h2; rfl, fun h => by cases h; exact ⟨rfl, rfl⟩⟩
              have HKS2 := Lib.hid (show ∀ W, Sees w tr d ks (some ⟨kb, ko, none⟩) c A6 c6 G W → (W.cell? ⟨kb, ko + x * 2, none⟩ = some (.int .i64 q1) ∧ W.cell? ⟨kb, ko + x * 2 + 1, none⟩ = some (.int .i64 q2)) from fun W h => by
                have := HKC.out W h x hlt
                rw [← HQ.out.1] at this
                exact this)
              clear hbb hjx hb
              go_region_held3 (fun W => W.cell? ⟨kb, ko + x * 2, none⟩ = some (.int .i64 q1) ∧ W.cell? ⟨kb, ko + x * 2 + 1, none⟩ = some (.int .i64 q2))
                (first
                  | exact HKS2.out _ (HSY.out.on (below_drewN (Below.refl _ _) 1))
                  | exact HKS2.out _ hSL
                  | (go_split_ands; exact HKS2.out _ hSL))
                (first | (go_at_call 19; (with_reducible refine Calls.mono (greatest_any _) ?_); rintro e wk ⟨rfl, hbk⟩; have hSL := (HSY.out.on (below_drewN (Below.refl _ _) 1)).on hbk))
              all_goals
                go_wp2_with fail
                go_meet
                exact ⟨rfl, hSL⟩
            · have hjb : ((j : Int) == (x : Int)) = false := beq_eq_false_iff_ne.2 (by omega)
              have hbb : b = false := by rw [hb, HGD.out, decide_eq_false (by omega), Bool.false_and]
              subst hbb
              clear hb hjx
              refine (wpIn_wide (n := 0)).1 ?_
              refine anyS_region (S := (fun _ => True)) 11 (by kernel_rfl) ?_ (fun hHeld => ?_)
              · trivial
              refine anyS_take (i := 0) (v := ?_) (by (simp only [List.getElem?_toArray, List.getElem?_cons_zero]); exact rfl) (by kernel_rfl) (by kernel_rfl) (by kernel_rfl) (by kernel_rfl) (by decide) (by intro _ _ _ h; exact h) (Or.inl ⟨by rfl, ?_⟩) (by assumption) ?_
              rotate_left
              · (intro w hSw; (try dsimp only at hSw); go_simp; (try with_reducible rfl))
              try simp only [Act.put, List.setIfInBounds_toArray, List.set_cons_zero, List.set_cons_succ]
              refine anyS_take (i := 1) (v := ?_) (by (simp only [List.getElem?_toArray, List.getElem?_cons_zero, List.getElem?_cons_succ]); exact rfl) (by kernel_rfl) (by kernel_rfl) (by kernel_rfl) (by kernel_rfl) (by decide) (by intro _ _ _ h; exact h) (Or.inl ⟨by rfl, ?_⟩) (by assumption) ?_
              rotate_left
              · (intro w hSw; (try dsimp only at hSw); go_simp; (try with_reducible rfl))
              try simp only [Act.put, List.setIfInBounds_toArray, List.set_cons_zero, List.set_cons_succ]
              refine anyS_take (i := 2) (v := ?_) (by (simp only [List.getElem?_toArray, List.getElem?_cons_zero, List.getElem?_cons_succ]); exact rfl) (by kernel_rfl) (by kernel_rfl) (by kernel_rfl) (by kernel_rfl) (by decide) (by intro _ _ _ h; exact h) (Or.inl ⟨by rfl, ?_⟩) (by assumption) ?_
              rotate_left
              · (intro w hSw; (try dsimp only at hSw); go_simp; (try with_reducible rfl))
              try simp only [Act.put, List.setIfInBounds_toArray, List.set_cons_zero, List.set_cons_succ]
              refine anyS_take (i := 3) (v := ?_) (by (simp only [List.getElem?_toArray, List.getElem?_cons_zero, List.getElem?_cons_succ]); exact rfl) (by kernel_rfl) (by kernel_rfl) (by kernel_rfl) (by kernel_rfl) (by decide) (by intro _ _ _ h; exact h) (Or.inl ⟨by rfl, ?_⟩) (by assumption) ?_
              rotate_left
              · (intro w hSw; (try dsimp only at hSw); go_simp; (try with_reducible rfl))
              try simp only [Act.put, List.setIfInBounds_toArray, List.set_cons_zero, List.set_cons_succ]
              refine anyS_take (i := 4) (v := undef) (by (simp only [List.getElem?_toArray, List.getElem?_cons_zero, List.getElem?_cons_succ]); exact rfl) (by kernel_rfl) (by kernel_rfl) (by kernel_rfl) (by kernel_rfl) (by decide) (by intro _ _ _ h; exact h) (Or.inr ⟨by rfl, rfl⟩) (by assumption) ?_
              try simp only [Act.put, List.setIfInBounds_toArray, List.set_cons_zero, List.set_cons_succ]
              refine anyS_take (i := 5) (v := undef) (by (simp only [List.getElem?_toArray, List.getElem?_cons_zero, List.getElem?_cons_succ]); exact rfl) (by kernel_rfl) (by kernel_rfl) (by kernel_rfl) (by kernel_rfl) (by decide) (by intro _ _ _ h; exact h) (Or.inr ⟨by rfl, rfl⟩) (by assumption) ?_
              try simp only [Act.put, List.setIfInBounds_toArray, List.set_cons_zero, List.set_cons_succ]
              refine anyS_take (i := 6) (v := undef) (by (simp only [List.getElem?_toArray, List.getElem?_cons_zero, List.getElem?_cons_succ]); exact rfl) (by kernel_rfl) (by kernel_rfl) (by kernel_rfl) (by kernel_rfl) (by decide) (by intro _ _ _ h; exact h) (Or.inr ⟨by rfl, rfl⟩) (by assumption) ?_
              try simp only [Act.put, List.setIfInBounds_toArray, List.set_cons_zero, List.set_cons_succ]
              refine anyS_take (i := 7) (v := undef) (by (simp only [List.getElem?_toArray, List.getElem?_cons_zero, List.getElem?_cons_succ]); exact rfl) (by kernel_rfl) (by kernel_rfl) (by kernel_rfl) (by kernel_rfl) (by decide) (by intro _ _ _ h; exact h) (Or.inr ⟨by rfl, rfl⟩) (by assumption) ?_
              try simp only [Act.put, List.setIfInBounds_toArray, List.set_cons_zero, List.set_cons_succ]
              refine anyS_take (i := 8) (v := undef) (by (simp only [List.getElem?_toArray, List.getElem?_cons_zero, List.getElem?_cons_succ]); exact rfl) (by kernel_rfl) (by kernel_rfl) (by kernel_rfl) (by kernel_rfl) (by decide) (by intro _ _ _ h; exact h) (Or.inr ⟨by rfl, rfl⟩) (by assumption) ?_
              try simp only [Act.put, List.setIfInBounds_toArray, List.set_cons_zero, List.set_cons_succ]
              refine anyS_take (i := 9) (v := undef) (by (simp only [List.getElem?_toArray, List.getElem?_cons_zero, List.getElem?_cons_succ]); exact rfl) (by kernel_rfl) (by kernel_rfl) (by kernel_rfl) (by kernel_rfl) (by decide) (by intro _ _ _ h; exact h) (Or.inr ⟨by rfl, rfl⟩) (by assumption) ?_
              try simp only [Act.put, List.setIfInBounds_toArray, List.set_cons_zero, List.set_cons_succ]
              refine anyS_take (i := 10) (v := ?_) (by (simp only [List.getElem?_toArray, List.getElem?_cons_zero, List.getElem?_cons_succ]); exact rfl) (by kernel_rfl) (by kernel_rfl) (by kernel_rfl) (by kernel_rfl) (by decide) (by intro _ _ _ h; exact h) (Or.inl ⟨by rfl, ?_⟩) (by assumption) ?_
              rotate_left
              · (intro w hSw; (try dsimp only at hSw); go_simp; (try with_reducible rfl))
              try simp only [Act.put, List.setIfInBounds_toArray, List.set_cons_zero, List.set_cons_succ]
              refine anyS_done (by kernel_rfl) ?_ _
              go_wp2_with fail
              go_meet
              exact ⟨rfl, HSY.out.on (below_drewN (Below.refl _ _) 1)⟩
          obtain ⟨rfl, hS⟩ := hcut
          obtain ⟨we, rfl⟩ : ∃ wq : World, wq = wc := ⟨_, rfl⟩
          have HSZ := Lib.hid hS
          have hcb : ((List.range x).filter (good ks ks.length)).length ≤ 600 := Nat.le_trans (List.length_filter_le _ _) (by rw [List.length_range]; omega)
          have hnext : ((List.range (x + 1)).filter (good ks ks.length)).length = ((List.range x).filter (good ks ks.length)).length + (if b then 1 else 0) := by
            rw [List.range_succ, List.filter_append, List.length_append, hb]
            cases hg : good ks ks.length x <;> simp [hg]
          obtain ⟨m, hm⟩ : ∃ m, m = ((List.range x).filter (good ks ks.length)).length := ⟨_, rfl⟩
          rw [← hm] at hcb hnext ⊢
          have HNX := Lib.hid hnext
          clear hS hb hm hnext
          cases b
          · go_wp2_with fail
            go_roundg (ks.length - (x + 1))
            case measure => omega
            case rel => exact ⟨x + 1, by omega, rfl, by rw [HNX.out]; rfl, by go_num, HSZ.out⟩
          · go_wp2_with fail
            go_roundg (ks.length - (x + 1))
            case measure => omega
            case rel => exact ⟨x + 1, by omega, rfl, by rw [HNX.out]; simp, by go_num, HSZ.out⟩
        · obtain rfl : x = ks.length := by omega
          have hki : ¬ (ks.length : Int) < (ks.length : Int) := by omega
          have HSX := Lib.hid hS
          clear hS
          have hcnt : ((List.range ks.length).filter (good ks ks.length)).length = G.length := by rw [HG.out.1, HGL.out]
          rw [hcnt]
          clear hcnt
          have hgg : ((G.length : Int) == (G.length : Int)) = true := beq_self_eq_true _
          go_wp2_with (go_at_call 11; (with_reducible refine Calls.mono (known_any _) ?_); rintro e w3 ⟨rfl, hb3⟩)
          go_ret
          exact ⟨rfl, HSX.out.has.bel.trans (hb3.mono HSX.out.has.bel.size)⟩

theorem own : ownKnob Try.prog.godebug = none := by kernel_rfl

set_option maxRecDepth 100000 in
theorem lifted (os : Os) (started : os.Started) (H : Type) (enc : TypeId × Value → H) :
    ReturnsInHanded {} Try.checked os 4 .any (Rows.treeSortsSpec.pre6 enc Try.prog Try.f4 Rows.treeSortsRow.domain false) (Rows.treeSortsSpec.post enc Try.prog Try.f4 false true false false) := by
  refine law_lifted (C := Try.checked) (tb := 4) own started (by kernel_rfl) Try.func4
    (ChangeSpec.witness6 (enc := enc) (C := Try.checked) false ⟨#[], #[.int .i64 0, .slice none 0 0], []⟩ 8 (by kernel_rfl) (by kernel_rfl) (by kernel_rfl) (by kernel_rfl))
    rfl (by kernel_rfl) (by kernel_rfl) (by kernel_rfl) Try.underlying4 (fun ds h => ?_) ?_
  · rw [show Try.f4.params = #[3, 39] from Try.params4] at h
    match ds, h with
    | [_, _], _ => rfl
  · intro W base args ds before hval hA hlt hsz
    rw [show Try.f4.params = #[3, 39] from Try.params4] at hA hval hsz
    obtain ⟨v0, vs0, d0, ds0, p0, q0, hargs, rfl, rfl, h0, r0⟩ := trodAll_cons hA
    obtain ⟨v1, vs1, d1, ds1, p1, q1, rfl, rfl, rfl, h1, r1⟩ := trodAll_cons r0
    obtain ⟨rfl, rfl, rfl⟩ := trodAll_nil r1
    obtain rfl : args = #[v0, v1] := by cases args; simp_all
    obtain ⟨n0, rfl, _, _, wf0⟩ := open_int Try.underlying3 (hval 0 _ v0 rfl rfl) h0
    obtain ⟨L, hL, hl, hok⟩ := open_keys (hval 1 _ v1 rfl rfl) h1 hsz (j := 1) rfl rfl
    exact walk n0 v1 L W (I64.of wf0) hL hok hl

theorem proved : Rows.TreeSortsSaid :=
  OpenClaim.holds_of_wide 4 Try.f4 rfl rfl rfl rfl rfl rfl rfl ⟨rfl, rfl, rfl, rfl, rfl⟩ rfl rfl rfl rfl rfl (by kernel_rfl) Try.func4 (by kernel_rfl)
    (of_decide_eq_true (by kernel_rfl)) (by unfold Func.isWrapper; rw [if_neg (of_decide_eq_false (by kernel_rfl))]; exact ⟨rfl, rfl⟩)
    (fun os started H enc _ => lifted os started H enc)
#print axioms proved
end TreeSorts
end Go.Proofs.Ytmmikolcipcldaa
