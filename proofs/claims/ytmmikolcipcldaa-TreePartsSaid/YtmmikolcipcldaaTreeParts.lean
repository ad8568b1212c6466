/-
  What is proved here: the law TreeParts returns true for every degree, every list of keys and every cut. Conditions: none.
-/
import Derived.Test.YtmmikolcipcldaaTreeOpen
import Derived.Test.YtmmikolcipcldaaRows
namespace Go.Proofs.Ytmmikolcipcldaa
namespace TreeParts
open Go.ChangeShapes Go.WideShapes Go.ChangeAt Go.RowKit Go.Deep

theorem cut_filter {es : List En} (hu : Up es) (p : En → Bool) (c : Ky) : es.filter p = es.filter (fun e => p e && bel e.1 c) ++ es.filter (fun e => p e && !bel e.1 c) := by
  induction es with
  | nil => rfl
  | cons x es ih =>
    obtain ⟨h0, h1⟩ := List.pairwise_cons.1 hu
    cases hx : bel x.1 c with
    | true =>
      cases hp : p x with
      | true => rw [List.filter_cons_of_pos hp, List.filter_cons_of_pos (by simp [hp, hx]), List.filter_cons_of_neg (by simp [hx]), ih h1]; rfl
      | false => rw [List.filter_cons_of_neg (by simp [hp]), List.filter_cons_of_neg (by simp [hp]), List.filter_cons_of_neg (by simp [hp]), ih h1]
    | false =>
      have hn : (x :: es).filter (fun e => p e && bel e.1 c) = [] := by
        rw [List.filter_eq_nil_iff]
        intro e he
        have : bel e.1 c = false := by
          rcases List.mem_cons.1 he with rfl | he
          · exact hx
          · cases h2 : bel e.1 c with
            | false => rfl
            | true => rw [bel_trans (h0 e he) h2] at hx; cases hx
        simp [this]
      rw [hn, List.nil_append]
      refine List.filter_congr fun e he => ?_
      have : bel e.1 c = false := by
        rcases List.mem_cons.1 he with rfl | he
        · exact hx
        · cases h2 : bel e.1 c with
          | false => rfl
          | true => rw [bel_trans (h0 e he) h2] at hx; cases hx
      simp [this]
theorem parts {es : List En} (hu : Up es) (hok : ∀ e ∈ es, KyOk e.1) {c : Ky} (hc : KyOk c) : ranged kLeast kGreat es = ranged kLeast c es ++ ranged c kGreat es := by
  rw [ranged_filter hu, ranged_filter hu, ranged_filter hu, cut_filter hu _ c]
  congr 1
  · refine List.filter_congr fun e he => ?_
    cases h : bel e.1 c with
    | false => simp
    | true =>
      have : bel e.1 kGreat = true := by
        by_cases hg : c = kGreat
        · rw [← hg]; exact h
        · exact bel_trans h (bel_total hc.great (fun e => hg e.symm))
      simp [this]
  · refine List.filter_congr fun e he => ?_
    rw [(hok e he).least]
    cases bel e.1 c <;> cases bel e.1 kGreat <;> rfl
theorem ranged_none {es : List En} (hu : Up es) (c : Ky) : ranged c c es = [] := by
  rw [ranged_filter hu, List.filter_eq_nil_iff]
  intro e _
  cases bel e.1 c <;> simp
theorem ranged_back {es : List En} (hu : Up es) (hok : ∀ e ∈ es, KyOk e.1) : ranged kGreat kLeast es = [] := by
  rw [ranged_filter hu, List.filter_eq_nil_iff]
  intro e he
  rw [(hok e he).least]
  simp
theorem filE_ok {ks : List Ky} (h : ∀ i, i < ks.length → KyOk (ks.getD i k0)) : ∀ e ∈ filE ks ks.length, KyOk e.1 := fun e he => by
  obtain ⟨i, h1, h2, _⟩ := filE_mem _ e he
  rw [h2]
  exact h i h1
theorem ranged_len {a b : Ky} {es : List En} (hu : Up es) : (ranged a b es).length ≤ es.length := by
  rw [ranged_filter hu]
  exact List.length_filter_le _ _

set_option maxRecDepth 100000 in
set_option maxHeartbeats 4000000 in
theorem walk (deg : Int) (v : Value) (L : List Ky) (c : Ky) (w : World) (h1 : I64 deg) (hk : KsAt w v L) (hok : ∀ i, i < L.length → KyOk (L.getD i k0)) (hc : KyOk c) (hlen : L.length ≤ 140737488351232) :
    Calls Try.prog 5 #[.int .i64 deg, v, .agg #[.int .i64 c.t, .int .i64 c.s]] w fun e w' => e = .returned (.bool true) ∧ Below w.heap.size w w' := by
  obtain ⟨ct, cs⟩ := c
  have hb0 : Below w.heap.size w (w.alloc (.cells #[.int .i64 ct, .int .i64 cs] 24)) := (Below.refl _ _).alloc (Nat.le_refl _) _
  have hk1 := hk.on hb0 (Nat.le_refl _)
  have hkb := Blk.new w 24 #[.int .i64 ct, .int .i64 cs]
  have hsz : w.heap.size < (w.alloc (.cells #[.int .i64 ct, .int .i64 cs] 24)).heap.size := by simp
  obtain ⟨w0, hw0⟩ : ∃ w0 : World, w0 = w.alloc (.cells #[.int .i64 ct, .int .i64 cs] 24) := ⟨_, rfl⟩
  rw [← hw0] at hb0 hk1 hkb hsz
  obtain ⟨A, cp, rfl, hcp, hA⟩ := hk
  have HA := Lib.hid hA
  have HOK := Lib.hid hok
  have HK := Lib.hid hk1
  have HC := Lib.hid hc
  have HB := Lib.hid hkb
  have H1 := Lib.hid h1
  clear hA hok hk1 hc hkb h1
  go_enter Try.func5, Try.ntmps5
  go_upto_if 15 with fail
  rw [← hw0]
  clear hw0
  go_cut [1] (fun s wx => wx = w0 ∧ ∃ ks, KsAt w0 s ks ∧ ks.length ≤ 600 ∧ (∀ i, i < ks.length → KyOk (ks.getD i k0)))
  case first =>
    by_cases hl : L.length ≤ 600
    · have hl1 : ¬ (600 : Int) < (L.length : Int) := by omega
      go_wp2_with fail
      go_meet
      exact ⟨rfl, L, HK.out, hl, HOK.out⟩
    · have hl1 : (600 : Int) < (L.length : Int) := by omega
      have hl2 : 600 ≤ L.length := by omega
      have hl3 : 600 ≤ cp := by omega
      go_wp2_with fail
      go_meet
      refine ⟨rfl, L.take 600, HK.out.take hl2, by rw [List.length_take]; omega, fun i hi => ?_⟩
      rw [List.length_take] at hi
      rw [take_getD (by omega)]
      exact HOK.out i (by omega)
  obtain ⟨rfl, ks, hks, hk6, hko⟩ := hcut
  obtain ⟨w0, rfl⟩ : ∃ wq : World, wq = wc := ⟨_, rfl⟩
  clear HK HA HOK
  obtain ⟨d, hd⟩ : ∃ d : Nat, (d : Int) = 2 + deg % 15 := ⟨(2 + deg % 15).toNat, by have := Int.emod_nonneg deg (show (15 : Int) ≠ 0 by omega); omega⟩
  have HF := Lib.hid (filled_any hks hk6 H1.out.1 H1.out.2 hd)
  have HD := Lib.hid (show d ≤ 16 by have := Int.emod_lt_of_pos deg (show (0 : Int) < 15 by omega); omega)
  have HL := Lib.hid (show (filE ks ks.length).length ≤ 600 from Nat.le_trans (filE_len ks _) hk6)
  have HE := Lib.hid (filE_ok hko)
  have HU := Lib.hid (filE_up ks ks.length)
  clear hks hk6 hko hd
  obtain ⟨es, hes⟩ : ∃ es, es = filE ks ks.length := ⟨_, rfl⟩
  rw [← hes] at HF HL HE HU
  clear hes
  go_upto_region 6 with (go_at_call 16; (with_reducible refine Calls.mono HF.out ?_); rintro e w1 ⟨tr, rfl, hH⟩)
  clear HF
  obtain ⟨wa, rfl⟩ : ∃ wq : World, wq = w1 := ⟨_, rfl⟩
  have HG := Lib.hid (fun (W : World) (h : Has w0.heap.size w0 tr d es W) (a b : Ky) => h.gath HD.out (by have := HL.out; omega) a b)
  -- REGIONS
  go_cut [8] (fun s wz => ∃ A c, s = .slice A (ranged kLeast kGreat es).length c ∧ (ranged kLeast kGreat es).length ≤ c ∧ EnsAt wz (.slice A (ranged kLeast kGreat es).length c) (ranged kLeast kGreat es) ∧ Has w0.heap.size w0 tr d es wz ∧ Below wa.heap.size wa wz)
  case first =>
   as_aux_lemma =>
    go_wp2_with (first | (go_at_call 18; (with_reducible refine Calls.mono (least_any _) ?_); rintro e wk0 ⟨rfl, hbk0⟩) | (go_at_call 19; (with_reducible refine Calls.mono (greatest_any _) ?_); rintro e wk1 ⟨rfl, hbk1⟩))
    have hK := Has.on (Has.on hH hbk0) hbk1
    have hBB : Below wa.heap.size wa wk1 := Below.trans hbk0 (hbk1.mono hbk0.size)
    refine Calls.mono (HG.out _ hK kLeast kGreat) ?_
    rintro e wp ⟨A1, c1, rfl, hc1, hv1, hH1, hb1⟩
    have hBC := Below.trans hBB (hb1.mono hBB.size)
    clear hK hb1 hBB hH
    go_wp2_with fail
    go_meet
    exact ⟨A1, c1, rfl, hc1, hv1, hH1, hBC⟩
  clear hH
  obtain ⟨A8, c8, rfl, hc8, hv8, hH, hb8⟩ := hcut
  obtain ⟨wb, rfl⟩ : ∃ wq : World, wq = wc := ⟨_, rfl⟩
  go_upto_region 7 with fail
  have HS := Lib.hid (show ∀ W, Has w0.heap.size w0 tr d es W → (W.cell? ⟨w.heap.size, 0, none⟩ = some (.int .i64 ct) ∧ W.cell? ⟨w.heap.size, 1, none⟩ = some (.int .i64 cs)) from fun W h => ⟨(HB.out.below h.bel hsz).cell 0, (HB.out.below h.bel hsz).cell 1⟩)
  have HH := Lib.hid hH
  clear hH
  go_cut [9] (fun s wz => ∃ A c, s = .slice A (ranged kLeast ⟨ct, cs⟩ es).length c ∧ (ranged kLeast ⟨ct, cs⟩ es).length ≤ c ∧ EnsAt wz (.slice A (ranged kLeast ⟨ct, cs⟩ es).length c) (ranged kLeast ⟨ct, cs⟩ es) ∧ Has w0.heap.size w0 tr d es wz ∧ Below wb.heap.size wb wz)
  case first =>
   as_aux_lemma =>
    go_region_held3 (fun W => W.cell? ⟨w.heap.size, 0, none⟩ = some (.int .i64 ct) ∧ W.cell? ⟨w.heap.size, 1, none⟩ = some (.int .i64 cs))
      (first
        | exact HS.out _ (HH.out.drewN 1)
        | exact HS.out _ hL
        | exact HS.out _ hH1
        | (go_split_ands; exact HS.out _ hL)
        | (go_split_ands; exact HS.out _ hH1))
      (first | (go_at_call 18; (with_reducible refine Calls.mono (least_any _) ?_); rintro e wk ⟨rfl, hbk⟩; have hL : Has w0.heap.size w0 tr d es wk := (HH.out.drewN 1).on hbk; have hLb : Below wb.heap.size wb wk := Below.trans (below_drewN (Below.refl _ _) 1) hbk) | (go_at_call 17; (refine Calls.mono (HG.out _ hL kLeast (⟨ct, cs⟩ : Ky)) ?_); rintro e wp ⟨A1, c1, rfl, hc1, hv1, hH1, hb1⟩; have hGb := Below.trans hLb (hb1.mono hLb.size)))
    all_goals
      go_wp2_with fail
      go_meet
      exact ⟨A1, c1, rfl, hc1, hv1, hH1, hGb⟩
  clear HH HS
  obtain ⟨A9, c9, rfl, hc9, hv9, hH, hb9⟩ := hcut
  obtain ⟨wd, rfl⟩ : ∃ wq : World, wq = wc := ⟨_, rfl⟩
  go_upto_region 8 with fail
  have HS := Lib.hid (show ∀ W, Has w0.heap.size w0 tr d es W → (W.cell? ⟨w.heap.size, 0, none⟩ = some (.int .i64 ct) ∧ W.cell? ⟨w.heap.size, 1, none⟩ = some (.int .i64 cs)) from fun W h => ⟨(HB.out.below h.bel hsz).cell 0, (HB.out.below h.bel hsz).cell 1⟩)
  have HH := Lib.hid hH
  clear hH
  go_cut [10] (fun s wz => ∃ A c, s = .slice A (ranged ⟨ct, cs⟩ kGreat es).length c ∧ (ranged ⟨ct, cs⟩ kGreat es).length ≤ c ∧ EnsAt wz (.slice A (ranged ⟨ct, cs⟩ kGreat es).length c) (ranged ⟨ct, cs⟩ kGreat es) ∧ Has w0.heap.size w0 tr d es wz ∧ Below wd.heap.size wd wz)
  case first =>
   as_aux_lemma =>
    go_region_held3 (fun W => W.cell? ⟨w.heap.size, 0, none⟩ = some (.int .i64 ct) ∧ W.cell? ⟨w.heap.size, 1, none⟩ = some (.int .i64 cs))
      (first
        | exact HS.out _ (HH.out.drewN 1)
        | exact HS.out _ hL
        | exact HS.out _ hH1
        | (go_split_ands; exact HS.out _ hL)
        | (go_split_ands; exact HS.out _ hH1))
      (first | (go_at_call 19; (with_reducible refine Calls.mono (greatest_any _) ?_); rintro e wk ⟨rfl, hbk⟩; have hL : Has w0.heap.size w0 tr d es wk := (HH.out.drewN 1).on hbk; have hLb : Below wd.heap.size wd wk := Below.trans (below_drewN (Below.refl _ _) 1) hbk) | (go_at_call 17; (refine Calls.mono (HG.out _ hL (⟨ct, cs⟩ : Ky) kGreat) ?_); rintro e wp ⟨A1, c1, rfl, hc1, hv1, hH1, hb1⟩; have hGb := Below.trans hLb (hb1.mono hLb.size)))
    all_goals
      go_wp2_with fail
      go_meet
      exact ⟨A1, c1, rfl, hc1, hv1, hH1, hGb⟩
  clear HH HS
  obtain ⟨A10, c10, rfl, hc10, hv10, hH, hb10⟩ := hcut
  obtain ⟨we, rfl⟩ : ∃ wq : World, wq = wc := ⟨_, rfl⟩
  go_upto_region 9 with fail
  go_cut [11] (fun s wz => ∃ A c, s = .slice A (ranged ⟨ct, cs⟩ ⟨ct, cs⟩ es).length c ∧ (ranged ⟨ct, cs⟩ ⟨ct, cs⟩ es).length ≤ c ∧ EnsAt wz (.slice A (ranged ⟨ct, cs⟩ ⟨ct, cs⟩ es).length c) (ranged ⟨ct, cs⟩ ⟨ct, cs⟩ es) ∧ Has w0.heap.size w0 tr d es wz ∧ Below we.heap.size we wz)
  case first =>
   as_aux_lemma =>
    have b0 : we.cell? ⟨w.heap.size, 0, none⟩ = some (.int .i64 ct) := (HB.out.below hH.bel hsz).cell 0
    have b1 : we.cell? ⟨w.heap.size, 1, none⟩ = some (.int .i64 cs) := (HB.out.below hH.bel hsz).cell 1
    go_wp2_with fail
    have hK := hH
    have hBB : Below we.heap.size we we := Below.refl _ _
    refine Calls.mono (HG.out _ hK (⟨ct, cs⟩ : Ky) (⟨ct, cs⟩ : Ky)) ?_
    rintro e wp ⟨A1, c1, rfl, hc1, hv1, hH1, hb1⟩
    have hBC := Below.trans hBB (hb1.mono hBB.size)
    clear hK hb1 hBB hH
    go_wp2_with fail
    go_meet
    exact ⟨A1, c1, rfl, hc1, hv1, hH1, hBC⟩
  clear hH
  obtain ⟨A11, c11, rfl, hc11, hv11, hH, hb11⟩ := hcut
  obtain ⟨wf, rfl⟩ : ∃ wq : World, wq = wc := ⟨_, rfl⟩
  go_upto_region 10 with fail
  go_cut [12] (fun s wz => ∃ A c, s = .slice A (ranged kGreat kLeast es).length c ∧ (ranged kGreat kLeast es).length ≤ c ∧ EnsAt wz (.slice A (ranged kGreat kLeast es).length c) (ranged kGreat kLeast es) ∧ Has w0.heap.size w0 tr d es wz ∧ Below wf.heap.size wf wz)
  case first =>
   as_aux_lemma =>
    go_wp2_with (first | (go_at_call 19; (with_reducible refine Calls.mono (greatest_any _) ?_); rintro e wk0 ⟨rfl, hbk0⟩) | (go_at_call 18; (with_reducible refine Calls.mono (least_any _) ?_); rintro e wk1 ⟨rfl, hbk1⟩))
    have hK := Has.on (Has.on hH hbk0) hbk1
    have hBB : Below wf.heap.size wf wk1 := Below.trans hbk0 (hbk1.mono hbk0.size)
    refine Calls.mono (HG.out _ hK kGreat kLeast) ?_
    rintro e wp ⟨A1, c1, rfl, hc1, hv1, hH1, hb1⟩
    have hBC := Below.trans hBB (hb1.mono hBB.size)
    clear hK hb1 hBB hH
    go_wp2_with fail
    go_meet
    exact ⟨A1, c1, rfl, hc1, hv1, hH1, hBC⟩
  clear hH
  obtain ⟨A12, c12, rfl, hc12, hv12, hH, hb12⟩ := hcut
  obtain ⟨wg, rfl⟩ : ∃ wq : World, wq = wc := ⟨_, rfl⟩
  -- END REGIONS
  have hP := parts HU.out HE.out HC.out
  have hN := ranged_none HU.out ⟨ct, cs⟩
  have hBk := ranged_back HU.out HE.out
  have hXl : (ranged kLeast kGreat es).length ≤ 600 := Nat.le_trans (ranged_len HU.out) HL.out
  have hbw : Below wb.heap.size wb wg := by
    refine hb9.trans ?_
    refine Below.mono ?_ hb9.size
    refine hb10.trans ?_
    refine Below.mono ?_ hb10.size
    exact hb11.trans (hb12.mono hb11.size)
  have v8 := hv8.on hbw (Nat.le_refl _)
  have v9 := hv9.on (hb10.trans ((hb11.trans (hb12.mono hb11.size)).mono hb10.size)) (Nat.le_refl _)
  have v10 := hv10.on (hb11.trans (hb12.mono hb11.size)) (Nat.le_refl _)
  have hbe : Below w.heap.size w wg := hb0.trans (hH.bel.mono (by omega))
  rw [hN, hBk]
  obtain ⟨X, hX⟩ : ∃ X, X = ranged kLeast kGreat es := ⟨_, rfl⟩
  obtain ⟨Y, hY⟩ : ∃ Y, Y = ranged kLeast ⟨ct, cs⟩ es := ⟨_, rfl⟩
  obtain ⟨Z, hZ⟩ : ∃ Z, Z = ranged ⟨ct, cs⟩ kGreat es := ⟨_, rfl⟩
  rw [← hX] at hP hXl v8 hc8
  rw [← hY] at hP v9 hc9
  rw [← hZ] at hP v10 hc10
  rw [← hX, ← hY, ← hZ]
  clear hX hY hZ hN hBk hc11 hv11 hc12 hv12 hv8 hv9 hv10 hb9 hb10 hb11 hb12 hb8 hbw
  have hXYZ : X.length = Y.length + Z.length := by rw [hP, List.length_append]
  have HV8 := Lib.hid v8
  have HV9 := Lib.hid v9
  have HV10 := Lib.hid v10
  have HPX := Lib.hid hP
  have hw2 : IntKind.i64.wrap ((Y.length : Int) + (Z.length : Int)) = (X.length : Int) := by rw [IntWalk.i64_in _ (by omega)]; omega
  have HBE := Lib.hid hbe
  clear v8 v9 v10 hP hbe
  have hy0 : (0 : Int) ≤ (Y.length : Int) := by omega
  have hy1 : Y.length ≤ c8 := by omega
  have hy2 : Y.length ≤ X.length := by omega
  have HS1 := Lib.hid (show ∀ W, Below wg.heap.size wg W → Calls Try.prog 15 #[.slice A8 Y.length c8, .slice A9 Y.length c9] W fun e w' => e = .returned (.bool true) ∧ Below W.heap.size W w' from fun W hb => by
    have h1 := (HV8.out.take (m := Y.length) hy2).on hb (Nat.le_refl _)
    rw [show X.take Y.length = Y by rw [HPX.out]; simp] at h1
    refine (same_any h1 (HV9.out.on hb (Nat.le_refl _)) (by omega)).mono ?_
    rintro e w' ⟨rfl, h⟩
    exact ⟨by rw [decide_eq_true rfl], h⟩)
  go_wp2_with fail
  with_reducible refine Calls.mono (HS1.out _ (Below.refl _ _)) ?_
  rintro e w1 ⟨rfl, hb1⟩
  clear HS1
  have HT := Lib.hid (show ∀ u, EnsAt w1 u Z → Calls Try.prog 15 #[u, .slice A10 Z.length c10] w1 fun e w' => e = .returned (.bool true) ∧ Below w1.heap.size w1 w' from fun u hu => by
    refine (same_any hu (HV10.out.on hb1 (Nat.le_refl _)) (by omega)).mono ?_
    rintro e w' ⟨rfl, h⟩
    exact ⟨by rw [decide_eq_true rfl], h⟩)
  obtain ⟨A', c', heq, _, hsh, _⟩ := HV8.out
  cases heq
  rcases hsh with ⟨rfl, rfl⟩ | ⟨g, o, rfl⟩
  · obtain rfl : X = [] := List.eq_nil_of_length_eq_zero (by omega)
    obtain rfl : Y = [] := List.eq_nil_of_length_eq_zero (by omega)
    obtain rfl : Z = [] := List.eq_nil_of_length_eq_zero (by simp at hXYZ; omega)
    have hu : EnsAt w1 (.slice none 0 0) ([] : List En) := ⟨none, 0, rfl, Nat.le_refl _, .inl ⟨rfl, rfl⟩, fun h => absurd h (by simp)⟩
    clear hw2 hy0 hy1 hy2 hXYZ
    go_wp2_with fail
    with_reducible refine Calls.mono (HT.out _ hu) ?_
    rintro e w2 ⟨rfl, hb2⟩
    go_wp2_with (go_at_call 11; (with_reducible refine Calls.mono (known_any _) ?_); rintro e w3 ⟨rfl, hb3⟩)
    go_ret
    exact ⟨rfl, HBE.out.trans ((hb1.trans ((hb2.trans (hb3.mono hb2.size)).mono hb1.size)).mono HBE.out.size)⟩
  · by_cases hcy : c8 = Y.length
    · have hZ0 : Z = [] := List.eq_nil_of_length_eq_zero (by omega)
      have hu : EnsAt w1 (.slice (some ⟨g, o, none⟩) Z.length 0) Z := by rw [hZ0]; exact ⟨_, _, rfl, Nat.le_refl _, .inr ⟨_, _, rfl⟩, fun h => absurd h (by simp)⟩
      have HZ := Lib.hid hZ0
      clear hZ0
      go_wp2_with fail
      with_reducible refine Calls.mono (HT.out _ hu) ?_
      rintro e w2 ⟨rfl, hb2⟩
      go_wp2_with (go_at_call 11; (with_reducible refine Calls.mono (known_any _) ?_); rintro e w3 ⟨rfl, hb3⟩)
      go_ret
      exact ⟨rfl, HBE.out.trans ((hb1.trans ((hb2.trans (hb3.mono hb2.size)).mono hb1.size)).mono HBE.out.size)⟩
    · have hu : EnsAt w1 (.slice (some ⟨g, o + Y.length * 3, none⟩) Z.length (c8 - Y.length)) Z := by
        have := (HV8.out.on hb1 (Nat.le_refl _)).drop (m := Y.length) (A := some ⟨g, o + Y.length * 3, none⟩) hy2 (fun _ => rfl) ⟨_, rfl⟩
        rw [show X.drop Y.length = Z by rw [HPX.out]; simp, show X.length - Y.length = Z.length by omega] at this
        exact this
      go_wp2_with fail
      with_reducible refine Calls.mono (HT.out _ hu) ?_
      rintro e w2 ⟨rfl, hb2⟩
      go_wp2_with (go_at_call 11; (with_reducible refine Calls.mono (known_any _) ?_); rintro e w3 ⟨rfl, hb3⟩)
      go_ret
      exact ⟨rfl, HBE.out.trans ((hb1.trans ((hb2.trans (hb3.mono hb2.size)).mono hb1.size)).mono HBE.out.size)⟩

theorem own : ownKnob Try.prog.godebug = none := by kernel_rfl

set_option maxRecDepth 100000 in
theorem lifted (os : Os) (started : os.Started) (H : Type) (enc : TypeId × Value → H) :
    ReturnsInHanded {} Try.checked os 5 .any (Rows.treePartsSpec.pre6 enc Try.prog Try.f5 Rows.treePartsRow.domain false) (Rows.treePartsSpec.post enc Try.prog Try.f5 false true false false) := by
  refine law_lifted (C := Try.checked) (tb := 4) own started (by kernel_rfl) Try.func5
    (ChangeSpec.witness6 (enc := enc) (C := Try.checked) false ⟨#[], #[.int .i64 0, .slice none 0 0, .agg #[.int .i64 0, .int .i64 0]], []⟩ 8 (by kernel_rfl) (by kernel_rfl) (by kernel_rfl) (by kernel_rfl))
    rfl (by kernel_rfl) (by kernel_rfl) (by kernel_rfl) Try.underlying4 (fun ds h => ?_) ?_
  · rw [show Try.f5.params = #[3, 39, 24] from Try.params5] at h
    match ds, h with
    | [_, _, _], _ => rfl
  · intro W base args ds before hval hA hlt hsz
    rw [show Try.f5.params = #[3, 39, 24] from Try.params5] at hA hval hsz
    obtain ⟨v0, vs0, d0, ds0, p0, q0, hargs, rfl, rfl, h0, r0⟩ := trodAll_cons hA
    obtain ⟨v1, vs1, d1, ds1, p1, q1, rfl, rfl, rfl, h1, r1⟩ := trodAll_cons r0
    obtain ⟨v2, vs2, d2, ds2, p2, q2, rfl, rfl, rfl, h2, r2⟩ := trodAll_cons r1
    obtain ⟨rfl, rfl, rfl⟩ := trodAll_nil r2
    obtain rfl : args = #[v0, v1, v2] := by cases args; simp_all
    obtain ⟨n0, rfl, _, _, wf0⟩ := open_int Try.underlying3 (hval 0 _ v0 rfl rfl) h0
    obtain ⟨L, hL, hl, hok⟩ := open_keys (hval 1 _ v1 rfl rfl) h1 hsz (j := 1) rfl rfl
    obtain ⟨c, rfl, hc⟩ := open_key (hval 2 _ v2 rfl rfl) h2
    exact walk n0 v1 L c W (I64.of wf0) hL hok hc hl

theorem proved : Rows.TreePartsSaid :=
  OpenClaim.holds_of_wide 5 Try.f5 rfl rfl rfl rfl rfl rfl rfl ⟨rfl, rfl, rfl, rfl, rfl⟩ rfl rfl rfl rfl rfl (by kernel_rfl) Try.func5 (by kernel_rfl)
    (of_decide_eq_true (by kernel_rfl)) (by unfold Func.isWrapper; rw [if_neg (of_decide_eq_false (by kernel_rfl))]; exact ⟨rfl, rfl⟩)
    (fun os started H enc _ => lifted os started H enc)
#print axioms proved
end TreeParts
end Go.Proofs.Ytmmikolcipcldaa
