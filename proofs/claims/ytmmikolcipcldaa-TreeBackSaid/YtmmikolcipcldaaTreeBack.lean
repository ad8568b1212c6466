/-
  What is proved here: the law TreeBack returns true for every degree, every list of keys and every key more. Conditions: none.
-/
import Derived.Test.YtmmikolcipcldaaTreeBackKit
import Derived.Test.YtmmikolcipcldaaRows
namespace Go.Proofs.Ytmmikolcipcldaa
namespace TreeBack
open Go.ChangeShapes Go.WideShapes Go.ChangeAt Go.RowKit Go.Deep

theorem _root_.Go.Proofs.Ytmmikolcipcldaa.OwnE.mono {b b' : Nat} {W : World} {v : Value} {es : List En} (h : OwnE b W v es) (hb : b' ≤ b) : OwnE b' W v es := by
  refine ⟨h.1, ?_⟩
  rcases h.2 with h' | ⟨g, cap, cur, a, b, c⟩
  · exact .inl h'
  · exact .inr ⟨g, cap, cur, a, Nat.le_trans hb b, c⟩
set_option maxRecDepth 100000 in
set_option maxHeartbeats 4000000 in
theorem walk (deg : Int) (v : Value) (L : List Ky) (c : Ky) (w : World) (h1 : I64 deg) (hk : KsAt w v L) (hlen : L.length ≤ 140737488351232) :
    Calls Try.prog 9 #[.int .i64 deg, v, .agg #[.int .i64 c.t, .int .i64 c.s]] w fun e w' => e = .returned (.bool true) ∧ Below w.heap.size w w' := by
  obtain ⟨ct, cs⟩ := c
  have hb0 : Below w.heap.size w (w.alloc (.cells #[.int .i64 ct, .int .i64 cs] 24)) := (Below.refl _ _).alloc (Nat.le_refl _) _
  have hk1 := hk.on hb0 (Nat.le_refl _)
  have hkb := Blk.new w 24 #[.int .i64 ct, .int .i64 cs]
  have hsz : w.heap.size < (w.alloc (.cells #[.int .i64 ct, .int .i64 cs] 24)).heap.size := by simp
  obtain ⟨w0, hw0⟩ : ∃ w0 : World, w0 = w.alloc (.cells #[.int .i64 ct, .int .i64 cs] 24) := ⟨_, rfl⟩
  rw [← hw0] at hb0 hk1 hkb hsz
  obtain ⟨A, cp, rfl, hcp, hA⟩ := hk
  have HK := Lib.hid hk1
  have HB := Lib.hid hkb
  have H1 := Lib.hid h1
  clear hA hk1 hkb h1
  go_enter Try.func9, Try.ntmps9
  go_upto_if 25 with fail
  rw [← hw0]
  clear hw0
  go_cut [1] (fun s wx => wx = w0 ∧ ∃ ks, KsAt w0 s ks ∧ ks.length ≤ 600)
  case first =>
    by_cases hl : L.length ≤ 600
    · have hl1 : ¬ (600 : Int) < (L.length : Int) := by omega
      go_wp2_with fail
      go_meet
      exact ⟨rfl, L, HK.out, hl⟩
    · have hl1 : (600 : Int) < (L.length : Int) := by omega
      have hl2 : 600 ≤ L.length := by omega
      have hl3 : 600 ≤ cp := by omega
      go_wp2_with fail
      go_meet
      exact ⟨rfl, L.take 600, HK.out.take hl2, by rw [List.length_take]; omega⟩
  obtain ⟨rfl, ks, hks, hk6⟩ := hcut
  obtain ⟨w0, rfl⟩ : ∃ wq : World, wq = wc := ⟨_, rfl⟩
  clear HK
  obtain ⟨d, hd⟩ : ∃ d : Nat, (d : Int) = 2 + deg % 15 := ⟨(2 + deg % 15).toNat, by have := Int.emod_nonneg deg (show (15 : Int) ≠ 0 by omega); omega⟩
  have HF := Lib.hid (filled_any hks hk6 H1.out.1 H1.out.2 hd)
  have HD := Lib.hid (show 2 ≤ d ∧ d ≤ 16 by have := Int.emod_nonneg deg (show (15 : Int) ≠ 0 by omega); have := Int.emod_lt_of_pos deg (show (0 : Int) < 15 by omega); omega)
  have HL := Lib.hid (show (filE ks ks.length).length ≤ 600 from Nat.le_trans (filE_len ks _) hk6)
  have HPK := Lib.hid (show ∀ W, Calls Try.prog 22 #[.int .i64 deg, .int .i64 15] W fun e w' => e = .returned (.int .i64 ((d : Int) - 2)) ∧ W = w' from fun W => (pick_any deg 15 W H1.out.1 H1.out.2 (by omega) (by omega)).mono (fun e w' h => ⟨by rw [h.1]; congr 2; omega, h.2⟩))
  clear hks hk6 hd
  obtain ⟨es, hes⟩ : ∃ es, es = filE ks ks.length := ⟨_, rfl⟩
  rw [← hes] at HF HL
  clear hes
  go_upto_region 6 with (go_at_call 16; (with_reducible refine Calls.mono HF.out ?_); rintro e w1 ⟨tr, rfl, hH⟩)
  clear HF
  obtain ⟨wa, rfl⟩ : ∃ wq : World, wq = w1 := ⟨_, rfl⟩
  have HT := Lib.hid hH
  have HU := Lib.hid hH.up
  clear hH
  have hd2 : (0 : Int) ≤ (d : Int) - 2 := by have := HD.out; omega
  have hd16 : (d : Int) ≤ 16 := by have := HD.out; omega
  have h2d : IntKind.i64.wrap (2 + ((d : Int) - 2)) = (d : Int) := by rw [IntWalk.i64_in _ (by omega)]; omega
  have h2e : 2 + ((d : Int) - 2) = (d : Int) := by omega
  go_upto_region 7 with (go_at_call 22; (with_reducible refine Calls.mono (HPK.out _) ?_); rintro e w2 ⟨rfl, rfl⟩)
  clear HPK h2d h2e hd2 hd16
  -- the pages
  have HN := Lib.hid (HT.out.nodes HD.out.1 HD.out.2 (by have := HL.out; omega))
  go_upto_region 8 with (go_at_call 23; (with_reducible refine Calls.mono HN.out ?_); rintro e w2 ⟨A9, l, c9, rfl, hO, hb2, hP⟩)
  obtain ⟨wb, rfl⟩ : ∃ wq : World, wq = w2 := ⟨_, rfl⟩
  have HO := Lib.hid (And.intro hO (And.intro hb2 hP))
  have HF := Lib.hid (of_pages HD.out.1 HD.out.2 (by have := HL.out; omega) HU.out hP hO.at_)
  clear hO hb2 hP HN
  -- the other tree
  go_upto_region 9 with (go_at_call 25; (with_reducible refine Calls.mono HF.out ?_); rintro e w3 ⟨tu, rfl, hu⟩)
  obtain ⟨wd, rfl⟩ : ∃ wq : World, wq = w3 := ⟨_, rfl⟩
  have HV := Lib.hid hu
  have HLU := Lib.hid hu.len
  have HLT := Lib.hid (HT.out.on (HO.out.2.1.trans (hu.bel.mono HO.out.2.1.size))).len
  have HSP := Lib.hid (spoilt_any (HO.out.1.sp hu.bel) (by have h1 := HO.out.2.2.1; have h2 := HL.out; omega))
  clear hu HF
  have hne : ((es.length : Int) != (es.length : Int)) = false := by simp
  go_upto_region 12 with (first
    | (go_at_call 28; (with_reducible refine Calls.mono HLU.out ?_); rintro e wl1 ⟨rfl, rfl⟩)
    | (go_at_call 28; (with_reducible refine Calls.mono HLT.out ?_); rintro e wl1 ⟨rfl, rfl⟩)
    | (go_at_call 31; (with_reducible refine Calls.mono HSP.out ?_); rintro e w4 ⟨rfl, hsp⟩))
  clear HLU HLT HSP hne
  obtain ⟨we, rfl⟩ : ∃ wq : World, wq = w4 := ⟨_, rfl⟩
  have hbt : Below wa.heap.size wa we := spl_below hsp (HO.out.2.1.trans (HV.out.bel.mono HO.out.2.1.size)) (by have h1 := HO.out.2.1.size; have h2 := HV.out.bel.size; omega)
  have huw := HV.out.touch hsp.touch (fun x hx => by have := HO.out.2.1.size; rw [List.mem_range'_1] at hx; omega)
  have HTE := Lib.hid hbt
  have HUE := Lib.hid huw
  clear hsp hbt huw HV
  obtain ⟨X, hX⟩ : ∃ X, X = ranged kLeast kGreat es := ⟨_, rfl⟩
  have HXL := Lib.hid (show X.length ≤ 600 by rw [hX]; exact Nat.le_trans (gath_len HU.out) HL.out)
  have HGT := Lib.hid (show ∀ W, Below wa.heap.size wa W → Calls Try.prog 17 #[.pointer (some ⟨tr, 0, none⟩), .agg kLeast.cells, .agg kGreat.cells] W fun e w' => ∃ A c, e = .returned (.slice A X.length c) ∧ OwnE W.heap.size w' (.slice A X.length c) X ∧ Below W.heap.size W w' from fun W hb => by
    rw [hX]
    exact (HT.out.on hb).gatO HD.out.2 (by have := HL.out; omega) kLeast kGreat)
  have HGU := Lib.hid (show ∀ W, Below we.heap.size we W → Calls Try.prog 17 #[.pointer (some ⟨tu, 0, none⟩), .agg kLeast.cells, .agg kGreat.cells] W fun e w' => ∃ A c, e = .returned (.slice A X.length c) ∧ OwnE W.heap.size w' (.slice A X.length c) X ∧ Below W.heap.size W w' from fun W hb => by
    rw [hX]
    exact (HUE.out.on hb).gatO HD.out.2 (by have := HL.out; omega) kLeast kGreat)
  clear hX
  go_upto_region 12 with fail
  go_cut [12] (fun s wz => ∃ A c, s = .slice A X.length c ∧ OwnE we.heap.size wz (.slice A X.length c) X ∧ Below we.heap.size we wz)
  case first =>
   as_aux_lemma =>
    go_wp2_with (first | (go_at_call 18; (with_reducible refine Calls.mono (least_any _) ?_); rintro e wk0 ⟨rfl, hbk0⟩) | (go_at_call 19; (with_reducible refine Calls.mono (greatest_any _) ?_); rintro e wk1 ⟨rfl, hbk1⟩))
    have hBB : Below we.heap.size we wk1 := Below.trans hbk0 (hbk1.mono hbk0.size)
    have HG := Lib.hid (HGT.out wk1 (HTE.out.trans (hBB.mono HTE.out.size)))
    clear hbk0 hbk1
    refine Calls.mono HG.out ?_
    rintro e wp ⟨A1, c1, rfl, hv1, hb1⟩
    have HZ := Lib.hid (And.intro (hv1.mono (by have := hBB.size; omega)) (hBB.trans (hb1.mono hBB.size)))
    clear hb1 hBB hv1
    go_wp2_with fail
    go_meet
    exact ⟨A1, c1, rfl, HZ.out.1, HZ.out.2⟩
  obtain ⟨A12, c12, rfl, hv12, hb12⟩ := hcut
  obtain ⟨wf, rfl⟩ : ∃ wq : World, wq = wc := ⟨_, rfl⟩
  go_upto_region 13 with fail
  go_cut [13] (fun s wz => ∃ A c, s = .slice A X.length c ∧ OwnE wf.heap.size wz (.slice A X.length c) X ∧ Below wf.heap.size wf wz)
  case first =>
   as_aux_lemma =>
    go_wp2_with (first | (go_at_call 18; (with_reducible refine Calls.mono (least_any _) ?_); rintro e wk0 ⟨rfl, hbk0⟩) | (go_at_call 19; (with_reducible refine Calls.mono (greatest_any _) ?_); rintro e wk1 ⟨rfl, hbk1⟩))
    have hBB : Below wf.heap.size wf wk1 := Below.trans hbk0 (hbk1.mono hbk0.size)
    have HG := Lib.hid (HGU.out wk1 (hb12.trans (hBB.mono hb12.size)))
    clear hbk0 hbk1
    refine Calls.mono HG.out ?_
    rintro e wp ⟨A1, c1, rfl, hv1, hb1⟩
    have HZ := Lib.hid (And.intro (hv1.mono (by have := hBB.size; omega)) (hBB.trans (hb1.mono hBB.size)))
    clear hb1 hBB hv1
    go_wp2_with fail
    go_meet
    exact ⟨A1, c1, rfl, HZ.out.1, HZ.out.2⟩
  obtain ⟨A13, c13, rfl, hv13, hb13⟩ := hcut
  obtain ⟨wg, rfl⟩ : ∃ wq : World, wq = wc := ⟨_, rfl⟩
  have HS := Lib.hid (same_any (hv12.on (hb13)).ens hv13.ens (by have := HXL.out; omega))
  rw [decide_eq_true rfl] at HS
  go_upto_region 16 with (go_at_call 15; (with_reducible refine Calls.mono HS.out ?_); rintro e w7 ⟨rfl, hb7⟩)
  obtain ⟨wh, rfl⟩ : ∃ wq : World, wq = w7 := ⟨_, rfl⟩
  have hbh : Below we.heap.size we wh := hb12.trans ((hb13.trans (hb7.mono hb13.size)).mono hb12.size)
  have HV1 := Lib.hid ((hv12.on hb13).on hb7)
  clear HS hv12 hv13 hb12 hb13 hb7
  -- the key more
  have HKY := Lib.hid (show ∀ W, Below wa.heap.size wa W → (W.cell? ⟨w.heap.size, 0, none⟩ = some (.int .i64 ct) ∧ W.cell? ⟨w.heap.size, 1, none⟩ = some (.int .i64 cs)) from fun W hb => by
    have hb2 := HB.out.below (HT.out.bel.trans (hb.mono (by have := HT.out.bel.size; omega))) hsz
    exact ⟨hb2.cell 0, hb2.cell 1⟩)
  obtain ⟨q, hq⟩ : ∃ q, q = hasE ⟨ct, cs⟩ es := ⟨_, rfl⟩
  obtain ⟨z, hz⟩ : ∃ z, z = valE ⟨ct, cs⟩ es := ⟨_, rfl⟩
  have HGET := Lib.hid (show ∀ W, Below wa.heap.size wa W → Calls Try.prog 21 #[.pointer (some ⟨tr, 0, none⟩), .agg #[.int .i64 ct, .int .i64 cs]] W fun e w' => e = .returned (.tuple #[.int .i64 z, .bool q]) ∧ Below W.heap.size W w' from fun W hb => by
    rw [hq, hz]
    exact (HT.out.on hb).get HD.out.2 ct cs)
  have HPUT := Lib.hid (show ∀ W, Below we.heap.size we W → Calls Try.prog 32 #[.pointer (some ⟨tu, 0, none⟩), .agg #[.int .i64 ct, .int .i64 cs], .int .i64 (-7)] W fun e w' => e = .returned (.bool (!q)) ∧ Has wb.heap.size we tu d (insE ⟨ct, cs⟩ (-7) es) w' ∧ (∀ (A : Option Addr) (c : Nat), OwnE we.heap.size W (.slice A X.length c) X → OwnE we.heap.size w' (.slice A X.length c) X) from fun W hb => by
    rw [hq]
    refine ((HUE.out.on hb).putK HD.out.1 HD.out.2 (by have := HL.out; omega) ct cs (-7)).mono ?_
    rintro e w' ⟨h1, h2, h3⟩
    exact ⟨h1, h2, fun A c hv => hv.held (fun g cs f hg => h3 g cs _ f hg (by decide))⟩)
  clear hq hz
  obtain ⟨y0, y1⟩ := HKY.out wh (HTE.out.trans (hbh.mono HTE.out.size))
  have HG1 := Lib.hid (HGET.out wh (HTE.out.trans (hbh.mono HTE.out.size)))
  go_upto_region 17 with (go_at_call 21; (with_reducible refine Calls.mono HG1.out ?_); rintro e w8 ⟨rfl, hb8⟩)
  obtain ⟨wi, rfl⟩ : ∃ wq : World, wq = w8 := ⟨_, rfl⟩
  have hbi := hbh.trans (hb8.mono hbh.size)
  have HV2 := Lib.hid (HV1.out.on hb8)
  clear HG1 hb8 hbh y0 y1 HV1
  obtain ⟨y0, y1⟩ := HKY.out wi (HTE.out.trans (hbi.mono HTE.out.size))
  have HP1 := Lib.hid (HPUT.out wi hbi)
  go_upto_region 18 with (go_at_call 32; (with_reducible refine Calls.mono HP1.out ?_); rintro e w9 ⟨rfl, hu9, hk9⟩)
  obtain ⟨wj, rfl⟩ : ∃ wq : World, wq = w9 := ⟨_, rfl⟩
  have HV3 := Lib.hid (hk9 _ _ (HV2.out.mono (by omega)))
  have HU9 := Lib.hid hu9
  have HUP := Lib.hid hu9.up
  have hbj : Below wa.heap.size wa wj := HTE.out.trans (hu9.bel.mono HO.out.2.1.size)
  have HG2 := Lib.hid (hu9.getIs HD.out.2 (val_ins HU.out) (has_ins HU.out))
  clear HP1 HPUT hu9 hk9 HV2 y0 y1 hbi
  obtain ⟨es', hes'⟩ : ∃ es', es' = insE ⟨ct, cs⟩ (-7) es := ⟨_, rfl⟩
  have HEL := Lib.hid (show es'.length ≤ 601 by rw [hes']; have h1 := ins_len (k := ⟨ct, cs⟩) (v := -7) HU.out; have h2 := HL.out; omega)
  rw [← hes'] at HU9 HUP
  clear hes'
  obtain ⟨y0, y1⟩ := HKY.out wj hbj
  go_upto_region 19 with (go_at_call 21; (with_reducible refine Calls.mono HG2.out ?_); rintro e w10 ⟨rfl, hb10⟩)
  obtain ⟨wk, rfl⟩ : ∃ wq : World, wq = w10 := ⟨_, rfl⟩
  have hbk := hbj.trans (hb10.mono hbj.size)
  clear HG2 y0 y1
  obtain ⟨y0, y1⟩ := HKY.out wk hbk
  have HG3 := Lib.hid (HGET.out wk hbk)
  go_upto_region 20 with (go_at_call 21; (with_reducible refine Calls.mono HG3.out ?_); rintro e w11 ⟨rfl, hb11⟩)
  obtain ⟨wl, rfl⟩ : ∃ wq : World, wq = w11 := ⟨_, rfl⟩
  have hbl := hbk.trans (hb11.mono hbk.size)
  have HUL := Lib.hid ((HU9.out.on hb10).on hb11)
  have HV5 := Lib.hid ((HV3.out.on hb10).on hb11)
  clear HG3 HGET HKY hbk hbj y0 y1 hb10 hb11 HV3 HU9
  -- its pages
  have HN := Lib.hid (HUL.out.nodes HD.out.1 HD.out.2 (by have := HEL.out; omega))
  go_wp2_with (go_at_call 23; (with_reducible refine Calls.mono HN.out ?_); rintro e w12 ⟨A20, l2, c20, rfl, hO2, hb12, hP2⟩)
  obtain ⟨wm, rfl⟩ : ∃ wq : World, wq = w12 := ⟨_, rfl⟩
  have HF2 := Lib.hid (of_pages HD.out.1 HD.out.2 (by have := HEL.out; omega) HUP.out hP2 hO2.at_)
  have HM := Lib.hid hb12
  clear hO2 hP2 hb12 HN
  go_upto_region 21 with (go_at_call 25; (with_reducible refine Calls.mono HF2.out ?_); rintro e w13 ⟨tx, rfl, hx⟩)
  obtain ⟨wn, rfl⟩ : ∃ wq : World, wq = w13 := ⟨_, rfl⟩
  have hbn : Below wl.heap.size wl wn := HM.out.trans (hx.bel.mono HM.out.size)
  have HLX := Lib.hid hx.len
  have HLU := Lib.hid (HUL.out.on hbn).len
  have hbm := hbl.trans (hbn.mono hbl.size)
  have HV6 := Lib.hid (HV5.out.on hbn)
  clear hx HF2 hbl hbn HM HV5 HUL
  have hne : ((es'.length : Int) != (es'.length : Int)) = false := by simp
  go_upto_region 23 with (first
    | (go_at_call 28; (with_reducible refine Calls.mono HLX.out ?_); rintro e wl1 ⟨rfl, rfl⟩)
    | (go_at_call 28; (with_reducible refine Calls.mono HLU.out ?_); rintro e wl1 ⟨rfl, rfl⟩))
  clear HLX HLU hne
  have HBM := Lib.hid hbm
  clear hbm
  cases q
  all_goals
    go_wp2_with (first | (go_at_call 18; (with_reducible refine Calls.mono (least_any _) ?_); rintro e wk0 ⟨rfl, hbk0⟩) | (go_at_call 19; (with_reducible refine Calls.mono (greatest_any _) ?_); rintro e wk1 ⟨rfl, hbk1⟩))
    have hBB : Below wn.heap.size wn wk1 := Below.trans hbk0 (hbk1.mono hbk0.size)
    have HG := Lib.hid (HGT.out wk1 (HBM.out.trans (hBB.mono HBM.out.size)))
    clear hbk0 hbk1
    refine Calls.mono HG.out ?_
    rintro e wp ⟨A1, c1, rfl, hv1, hb1⟩
    have HS := Lib.hid (same_any hv1.ens ((HV6.out.on hBB).on hb1).ens (by have := HXL.out; omega))
    rw [decide_eq_true rfl] at HS
    have HZ := Lib.hid (hBB.trans (hb1.mono hBB.size))
    clear hb1 hBB hv1 HG
    go_wp2_with fail
    with_reducible refine Calls.mono HS.out ?_
    rintro e w20 ⟨rfl, hb20⟩
    go_wp2_with (go_at_call 11; (with_reducible refine Calls.mono (known_any _) ?_); rintro e w21 ⟨rfl, hb21⟩)
    go_ret
    exact ⟨rfl, hb0.trans ((HT.out.bel.trans ((HBM.out.trans ((HZ.out.trans ((hb20.trans (hb21.mono hb20.size)).mono HZ.out.size)).mono HBM.out.size)).mono (by have := HT.out.bel.size; omega))).mono (by omega))⟩

theorem own : ownKnob Try.prog.godebug = none := by kernel_rfl

set_option maxRecDepth 100000 in
theorem lifted (os : Os) (started : os.Started) (H : Type) (enc : TypeId × Value → H) :
    ReturnsInHanded {} Try.checked os 9 .any (Rows.treeBackSpec.pre6 enc Try.prog Try.f9 Rows.treeBackRow.domain false) (Rows.treeBackSpec.post enc Try.prog Try.f9 false true false false) := by
  refine law_lifted (C := Try.checked) (tb := 4) own started (by kernel_rfl) Try.func9
    (ChangeSpec.witness6 (enc := enc) (C := Try.checked) false ⟨#[], #[.int .i64 0, .slice none 0 0, .agg #[.int .i64 0, .int .i64 0]], []⟩ 8 (by kernel_rfl) (by kernel_rfl) (by kernel_rfl) (by kernel_rfl))
    rfl (by kernel_rfl) (by kernel_rfl) (by kernel_rfl) Try.underlying4 (fun ds h => ?_) ?_
  · rw [show Try.f9.params = #[3, 39, 24] from Try.params9] at h
    match ds, h with
    | [_, _, _], _ => rfl
  · intro W base args ds before hval hA hlt hsz
    rw [show Try.f9.params = #[3, 39, 24] from Try.params9] at hA hval hsz
    obtain ⟨v0, vs0, d0, ds0, p0, q0, hargs, rfl, rfl, h0, r0⟩ := trodAll_cons hA
    obtain ⟨v1, vs1, d1, ds1, p1, q1, rfl, rfl, rfl, h1, r1⟩ := trodAll_cons r0
    obtain ⟨v2, vs2, d2, ds2, p2, q2, rfl, rfl, rfl, h2, r2⟩ := trodAll_cons r1
    obtain ⟨rfl, rfl, rfl⟩ := trodAll_nil r2
    obtain rfl : args = #[v0, v1, v2] := by cases args; simp_all
    obtain ⟨n0, rfl, _, _, wf0⟩ := open_int Try.underlying3 (hval 0 _ v0 rfl rfl) h0
    obtain ⟨L, hL, hl, _⟩ := open_keys (hval 1 _ v1 rfl rfl) h1 hsz (j := 1) rfl rfl
    obtain ⟨c, rfl, _⟩ := open_key (hval 2 _ v2 rfl rfl) h2
    exact walk n0 v1 L c W (I64.of wf0) hL hl

theorem proved : Rows.TreeBackSaid :=
  OpenClaim.holds_of_wide 9 Try.f9 rfl rfl rfl rfl rfl rfl rfl ⟨rfl, rfl, rfl, rfl, rfl⟩ rfl rfl rfl rfl rfl (by kernel_rfl) Try.func9 (by kernel_rfl)
    (of_decide_eq_true (by kernel_rfl)) (by unfold Func.isWrapper; rw [if_neg (of_decide_eq_false (by kernel_rfl))]; exact ⟨rfl, rfl⟩)
    (fun os started H enc _ => lifted os started H enc)
#print axioms proved
end TreeBack
end Go.Proofs.Ytmmikolcipcldaa
