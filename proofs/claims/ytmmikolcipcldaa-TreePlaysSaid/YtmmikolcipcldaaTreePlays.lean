/-
  What is proved here: the law TreePlays returns true for every degree, every list of operations, every two ends. Conditions: none.
-/
import Derived.Test.YtmmikolcipcldaaTreeThrice
import Derived.Test.YtmmikolcipcldaaTreeOps
import Derived.Test.YtmmikolcipcldaaRows
namespace Go.Proofs.Ytmmikolcipcldaa
namespace TreePlays
open Go.ChangeShapes Go.WideShapes Go.ChangeAt Go.RowKit Go.Deep

theorem ops_on {W W' : World} {v : Value} {l : List OpR} {B : Nat} (h : OpsAt W v l) (hb : Below B W W') (hB : W.heap.size ≤ B) : OpsAt W' v l := by
  obtain ⟨A, c, h1, h2, h3⟩ := h
  refine ⟨A, c, h1, h2, fun hp => ?_⟩
  obtain ⟨g, o, h4, h5, h6⟩ := h3 hp
  refine ⟨g, o, h4, Nat.lt_of_lt_of_le h5 hb.size, fun i hi => ?_⟩
  have e := fun j => hb.cell (p := ⟨g, j, none⟩) (Nat.lt_of_lt_of_le h5 hB)
  rw [e, e, e, e]
  exact h6 i hi

set_option maxRecDepth 100000 in
set_option maxHeartbeats 1000000 in
theorem walk (deg : Int) (v : Value) (L : List OpR) (a b : Ky) (w : World) (h1 : I64 deg) (hl : OpsAt w v L) (hlen : L.length ≤ 140737488351232) :
    Calls Try.prog 3 #[.int .i64 deg, v, .agg #[.int .i64 a.t, .int .i64 a.s, .int .i64 b.t, .int .i64 b.s]] w fun e w' => e = .returned (.bool true) ∧ Below w.heap.size w w' := by
  obtain ⟨at_, as_⟩ := a
  obtain ⟨bt, bs⟩ := b
  have hb0 : Below w.heap.size w (w.alloc (.cells #[.int .i64 at_, .int .i64 as_, .int .i64 bt, .int .i64 bs] 25)) := (Below.refl _ _).alloc (Nat.le_refl _) _
  have hbx := Blk.new w 25 #[.int .i64 at_, .int .i64 as_, .int .i64 bt, .int .i64 bs]
  go_enter Try.func3, Try.ntmps3
  go_upto_region 1 with fail
  obtain ⟨w0, hw0⟩ : ∃ w0 : World, w0 = w.alloc (.cells #[.int .i64 at_, .int .i64 as_, .int .i64 bt, .int .i64 bs] 25) := ⟨_, rfl⟩
  rw [← hw0] at hb0 hbx ⊢
  have HB0 := Lib.hid hb0
  have HBX := Lib.hid hbx
  clear hw0 hb0 hbx
  go_cut [7, 8] (fun s7 s8 wz => ∃ p7 p8, s7 = .pointer (some ⟨p7, 0, none⟩) ∧ s8 = .pointer (some ⟨p8, 0, none⟩) ∧ Blk wz p7 24 #[.int .i64 at_, .int .i64 as_] ∧ Blk wz p8 24 #[.int .i64 bt, .int .i64 bs] ∧ Below w0.heap.size w0 wz)
  case first =>
    have HS := Lib.hid (show ∀ W, Below w0.heap.size w0 W → (W.cell? ⟨w.heap.size, 0, none⟩ = some (.int .i64 at_) ∧ W.cell? ⟨w.heap.size, 1, none⟩ = some (.int .i64 as_) ∧ W.cell? ⟨w.heap.size, 2, none⟩ = some (.int .i64 bt) ∧ W.cell? ⟨w.heap.size, 3, none⟩ = some (.int .i64 bs)) from fun W hb => ⟨(HBX.out.below hb HBX.out.lt).cell 0, (HBX.out.below hb HBX.out.lt).cell 1, (HBX.out.below hb HBX.out.lt).cell 2, (HBX.out.below hb HBX.out.lt).cell 3⟩)
    go_region_held3 (fun W => W.cell? ⟨w.heap.size, 0, none⟩ = some (.int .i64 at_) ∧ W.cell? ⟨w.heap.size, 1, none⟩ = some (.int .i64 as_) ∧ W.cell? ⟨w.heap.size, 2, none⟩ = some (.int .i64 bt) ∧ W.cell? ⟨w.heap.size, 3, none⟩ = some (.int .i64 bs))
      (first
        | exact HS.out _ (by (repeat (first | (with_reducible assumption) | (with_reducible exact Below.refl _ _) | ((with_reducible refine Below.setCell ?_ ?_ _); rotate_left; · (first | omega | (simp; done) | (simp; omega) | (simp at *; omega))) | ((with_reducible refine Below.alloc ?_ ?_ _); rotate_left; · (first | omega | (simp; done) | (simp; omega) | (simp at *; omega))) | (with_reducible refine Below.drew ?_) | (with_reducible refine below_drewN ?_ _) | ((refine Below.trans ?_ (Below.mono (by with_reducible assumption) ?_)); rotate_left; · (first | omega | (simp; done) | (simp; omega) | (simp at *; omega))))))
        | (go_split_ands; exact HS.out _ (by (repeat (first | (with_reducible assumption) | (with_reducible exact Below.refl _ _) | ((with_reducible refine Below.setCell ?_ ?_ _); rotate_left; · (first | omega | (simp; done) | (simp; omega) | (simp at *; omega))) | ((with_reducible refine Below.alloc ?_ ?_ _); rotate_left; · (first | omega | (simp; done) | (simp; omega) | (simp at *; omega))) | (with_reducible refine Below.drew ?_) | (with_reducible refine below_drewN ?_ _) | ((refine Below.trans ?_ (Below.mono (by with_reducible assumption) ?_)); rotate_left; · (first | omega | (simp; done) | (simp; omega) | (simp at *; omega))))))))
      (fail)
    all_goals
      go_wp2_with fail
      go_meet
      first
        | exact ⟨_, _, rfl, rfl, ((Blk.new _ _ _).alloc _).drew, (Blk.at_end (w0.alloc (.cells #[.int .i64 at_, .int .i64 as_] 24)) _ _ (show w0.heap.size + 1 = _ by simp)).drew, by (repeat (first | (with_reducible assumption) | (with_reducible exact Below.refl _ _) | ((with_reducible refine Below.setCell ?_ ?_ _); rotate_left; · (first | omega | (simp; done) | (simp; omega) | (simp at *; omega))) | ((with_reducible refine Below.alloc ?_ ?_ _); rotate_left; · (first | omega | (simp; done) | (simp; omega) | (simp at *; omega))) | (with_reducible refine Below.drew ?_) | (with_reducible refine below_drewN ?_ _) | ((refine Below.trans ?_ (Below.mono (by with_reducible assumption) ?_)); rotate_left; · (first | omega | (simp; done) | (simp; omega) | (simp at *; omega)))))⟩
        | exact ⟨_, _, rfl, rfl, (Blk.at_end (w0.alloc (.cells #[.int .i64 bt, .int .i64 bs] 24)) _ _ (show w0.heap.size + 1 = _ by simp)).drew, ((Blk.new _ _ _).alloc _).drew, by (repeat (first | (with_reducible assumption) | (with_reducible exact Below.refl _ _) | ((with_reducible refine Below.setCell ?_ ?_ _); rotate_left; · (first | omega | (simp; done) | (simp; omega) | (simp at *; omega))) | ((with_reducible refine Below.alloc ?_ ?_ _); rotate_left; · (first | omega | (simp; done) | (simp; omega) | (simp at *; omega))) | (with_reducible refine Below.drew ?_) | (with_reducible refine below_drewN ?_ _) | ((refine Below.trans ?_ (Below.mono (by with_reducible assumption) ?_)); rotate_left; · (first | omega | (simp; done) | (simp; omega) | (simp at *; omega)))))⟩
  obtain ⟨p7, p8, rfl, rfl, h7, h8, hbz⟩ := hcut
  obtain ⟨wz, rfl⟩ : ∃ wq : World, wq = wc := ⟨_, rfl⟩
  have hbw : Below w.heap.size w wz := HB0.out.trans (hbz.mono HB0.out.size)
  have HL := Lib.hid (ops_on hl hbw (Nat.le_refl _))
  have H78 := Lib.hid (And.intro h7 h8)
  have HBW := Lib.hid hbw
  have H1 := Lib.hid h1
  clear h7 h8 hbz hbw hl h1
  by_cases ho : deg < 2 ∨ 16 < deg
  · have HN := Lib.hid (new_no deg wz ho)
    rcases ho with h2 | h2
    · go_wp2_with (first
        | (go_at_call 10; (with_reducible refine Calls.mono HN.out ?_); rintro e w1 ⟨rfl, rfl⟩)
        | (go_at_call 11; (with_reducible refine Calls.mono (known_any _) ?_); rintro e w3 ⟨rfl, hb3⟩))
      go_ret
      exact ⟨rfl, HBW.out.trans (hb3.mono HBW.out.size)⟩
    · have h3 : ¬ deg < 2 := by omega
      go_wp2_with (first
        | (go_at_call 10; (with_reducible refine Calls.mono HN.out ?_); rintro e w1 ⟨rfl, rfl⟩)
        | (go_at_call 11; (with_reducible refine Calls.mono (known_any _) ?_); rintro e w3 ⟨rfl, hb3⟩))
      go_ret
      exact ⟨rfl, HBW.out.trans (hb3.mono HBW.out.size)⟩
  · obtain ⟨d, rfl⟩ : ∃ d : Nat, deg = (d : Int) := ⟨deg.toNat, by omega⟩
    have h2 : ¬ (d : Int) < 2 := by omega
    have h3 : ¬ (16 : Int) < (d : Int) := by omega
    have HD := Lib.hid (show 2 ≤ d ∧ d ≤ 16 by omega)
    have HPL := Lib.hid (played_any HD.out.1 HD.out.2 HL.out hlen)
    clear ho
    go_upto_region 8 with (go_at_call 12; (with_reducible refine Calls.mono HPL.out ?_); rintro e w1 ⟨tr, r, rfl, hH, hr⟩)
    obtain ⟨es, hes⟩ : ∃ es, es = playE L (min L.length 600) := ⟨_, rfl⟩
    have hel : es.length ≤ 600 := by rw [hes]; exact Nat.le_trans (playE_len L _) (by omega)
    have hup : Up es := by rw [hes]; exact playE_up L _
    rw [← hes] at hH hr
    obtain ⟨wa, rfl⟩ : ∃ wq : World, wq = w1 := ⟨_, rfl⟩
    have k7 := H78.out.1.below hH.bel H78.out.1.lt
    have k8 := H78.out.2.below hH.bel H78.out.2.lt
    obtain ⟨c0, c1, _, _⟩ := k7.two
    obtain ⟨c2, c3, _, _⟩ := k8.two
    have HRR := Lib.hid (rrange_any ⟨at_, as_⟩ ⟨bt, bs⟩ hr (by omega))
    rw [← ranged_filter hup] at HRR
    have HK := Lib.hid (And.intro k7 k8)
    have HH := Lib.hid hH
    have HUP := Lib.hid hup
    have HEL := Lib.hid hel
    clear hes hH hr k7 k8 hup hel HPL
    go_upto_region 9 with (go_at_call 13; (with_reducible refine Calls.mono HRR.out ?_); rintro e w2 ⟨v14, rfl, hv, hb2⟩)
    obtain ⟨R, hR⟩ : ∃ R, R = ranged ⟨at_, as_⟩ ⟨bt, bs⟩ es := ⟨_, rfl⟩
    rw [← hR] at hv
    obtain ⟨A4, q4, rfl, hq4, hs4⟩ := hv
    have hH2 := HH.out.on hb2
    have k7 := HK.out.1.below hb2 HK.out.1.lt
    have k8 := HK.out.2.below hb2 HK.out.2.lt
    clear c0 c1 c2 c3
    obtain ⟨c0, c1, _, _⟩ := k7.two
    obtain ⟨c2, c3, _, _⟩ := k8.two
    obtain ⟨hf, hhf, hfl⟩ : ∃ hf : Nat, (R.length : Int) / 2 = (hf : Int) ∧ hf ≤ R.length := ⟨R.length / 2, by omega, by omega⟩
    have HTH := Lib.hid (thrice_any hH2 HD.out.2 (by have := HEL.out; omega) ⟨at_, as_⟩ ⟨bt, bs⟩ (hf : Int))
    rw [← hR, Int.toNat_natCast] at HTH
    have hR6 : R.length ≤ 600 := by
      rw [hR, ranged_filter HUP.out]
      exact Nat.le_trans (List.length_filter_le _ _) HEL.out
    have HV := Lib.hid (show EnsAt w2 (.slice A4 R.length q4) R from ⟨A4, q4, rfl, hq4, hs4⟩)
    have HH2 := Lib.hid hH2
    clear hR hs4 hH2 k7 k8 HRR
    go_upto_region 10 with (go_at_call 14; (refine Calls.mono HTH.out ?_); rintro e w3 ⟨u1, u2, u3, rfl, hu1, hu2, hu3, hb3⟩)
    have hf0 : (0 : Int) ≤ (hf : Int) := by omega
    have hfq : hf ≤ q4 := by omega
    have HS1 := Lib.hid (same_any hu1 ((HV.out.take hfl).on hb3 (Nat.le_refl _)) (by rw [List.length_take]; omega))
    have HBE := Lib.hid (HBW.out.trans ((HH2.out.on hb3).bel.mono HBW.out.size))
    have HU := Lib.hid (And.intro hu2 (And.intro hu3 (HV.out.on hb3 (Nat.le_refl _))))
    rw [decide_eq_true rfl] at HS1
    clear hu1 hu2 hu3 hb3 hb2
    go_wp2_with fail
    with_reducible refine Calls.mono HS1.out ?_
    rintro e w4 ⟨rfl, hb4⟩
    have HS2 := Lib.hid (same_any (HU.out.1.on hb4 (Nat.le_refl _)) (HU.out.2.2.on hb4 (Nat.le_refl _)) (by omega))
    rw [decide_eq_true rfl] at HS2
    go_wp2_with fail
    with_reducible refine Calls.mono HS2.out ?_
    rintro e w5 ⟨rfl, hb5⟩
    have hb45 := hb4.trans (hb5.mono hb4.size)
    have HS3 := Lib.hid (same_any (HU.out.2.1.on hb45 (Nat.le_refl _)) (HU.out.2.2.on hb45 (Nat.le_refl _)) (by omega))
    rw [decide_eq_true rfl] at HS3
    go_wp2_with fail
    with_reducible refine Calls.mono HS3.out ?_
    rintro e w6 ⟨rfl, hb6⟩
    go_wp2_with (go_at_call 11; (with_reducible refine Calls.mono (known_any _) ?_); rintro e w7 ⟨rfl, hb7⟩)
    go_ret
    have hb46 := hb45.trans (hb6.mono hb45.size)
    exact ⟨rfl, HBE.out.trans ((hb46.trans (hb7.mono hb46.size)).mono HBE.out.size)⟩

theorem own : ownKnob Try.prog.godebug = none := by kernel_rfl

set_option maxRecDepth 100000 in
theorem lifted (os : Os) (started : os.Started) (H : Type) (enc : TypeId × Value → H) :
    ReturnsInHanded {} Try.checked os 3 .any (Rows.treePlaysSpec.pre6 enc Try.prog Try.f3 Rows.treePlaysRow.domain false) (Rows.treePlaysSpec.post enc Try.prog Try.f3 false true false false) := by
  refine law_lifted (C := Try.checked) (tb := 4) own started (by kernel_rfl) Try.func3
    (ChangeSpec.witness6 (enc := enc) (C := Try.checked) false ⟨#[], #[.int .i64 0, .slice none 0 0, .agg #[.int .i64 0, .int .i64 0, .int .i64 0, .int .i64 0]], []⟩ 8 (by kernel_rfl) (by kernel_rfl) (by kernel_rfl) (by kernel_rfl))
    rfl (by kernel_rfl) (by kernel_rfl) (by kernel_rfl) Try.underlying4 (fun ds h => ?_) ?_
  · rw [show Try.f3.params = #[3, 22, 25] from Try.params3] at h
    match ds, h with
    | [_, _, _], _ => rfl
  · intro W base args ds before hval hA hlt hsz
    rw [show Try.f3.params = #[3, 22, 25] from Try.params3] at hA hval hsz
    obtain ⟨v0, vs0, d0, ds0, p0, q0, hargs, rfl, rfl, h0, r0⟩ := trodAll_cons hA
    obtain ⟨v1, vs1, d1, ds1, p1, q1, rfl, rfl, rfl, h1, r1⟩ := trodAll_cons r0
    obtain ⟨v2, vs2, d2, ds2, p2, q2, rfl, rfl, rfl, h2, r2⟩ := trodAll_cons r1
    obtain ⟨rfl, rfl, rfl⟩ := trodAll_nil r2
    obtain rfl : args = #[v0, v1, v2] := by cases args; simp_all
    obtain ⟨n0, rfl, _, _, wf0⟩ := open_int Try.underlying3 (hval 0 _ v0 rfl rfl) h0
    obtain ⟨L, hL, hl⟩ := open_ops (hval 1 _ v1 rfl rfl) h1 hsz (j := 1) rfl rfl
    obtain ⟨a, b, rfl, _, _⟩ := open_two (hval 2 _ v2 rfl rfl) h2
    exact walk n0 v1 L a b W (I64.of wf0) hL hl

theorem proved : Rows.TreePlaysSaid :=
  OpenClaim.holds_of_wide 3 Try.f3 rfl rfl rfl rfl rfl rfl rfl ⟨rfl, rfl, rfl, rfl, rfl⟩ rfl rfl rfl rfl rfl (by kernel_rfl) Try.func3 (by kernel_rfl)
    (of_decide_eq_true (by kernel_rfl)) (by unfold Func.isWrapper; rw [if_neg (of_decide_eq_false (by kernel_rfl))]; exact ⟨rfl, rfl⟩)
    (fun os started H enc _ => lifted os started H enc)
#print axioms proved
end TreePlays
end Go.Proofs.Ytmmikolcipcldaa
