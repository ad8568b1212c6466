/-
  What is proved here: the law TreeOf returns true for every degree and every list of pages. Conditions: none.
-/
import Derived.Test.YtmmikolcipcldaaTreeOfKit
import Derived.Test.YtmmikolcipcldaaRows
namespace Go.Proofs.Ytmmikolcipcldaa
namespace TreeOf
open Go.ChangeShapes Go.WideShapes Go.ChangeAt Go.RowKit Go.Deep

/-- what a page adds is not much. -/
theorem close (w W : World) (x : Int) (hx : 0 ≤ x ∧ x ≤ 20000) (h : Below w.heap.size w W) : ∃ m : Nat, Value.int .i64 x = .int .i64 (m : Int) ∧ m ≤ 20000 ∧ Below w.heap.size w W := ⟨x.toNat, by rw [Int.toNat_of_nonneg hx.1], by omega, h⟩

set_option maxRecDepth 100000 in
set_option maxHeartbeats 4000000 in
theorem walk (deg : Int) (v : Value) (L : List NdR) (w : World) (hN : NdsAt w v L) (hf : NFit L) (hlen : L.length ≤ 9223372036854775807) :
    Calls Try.prog 8 #[.int .i64 deg, v] w fun e w' => e = .returned (.bool true) ∧ Below w.heap.size w w' := by
  have HN := Lib.hid hN
  have HF := Lib.hid hf
  obtain ⟨A, cp, rfl, hcp, _⟩ := hN
  clear hf
  go_enter Try.func8, Try.ntmps8
  go_upto_if 21 with fail
  go_cut [1] (fun s wx => wx = w ∧ ∃ l A c, s = .slice A l.length c ∧ NdsAt w (.slice A l.length c) l ∧ NFit l ∧ l.length ≤ 300)
  case first =>
    by_cases hl : L.length ≤ 300
    · have hl1 : ¬ (300 : Int) < (L.length : Int) := by omega
      go_wp2_with fail
      go_meet
      exact ⟨rfl, L, A, cp, rfl, HN.out, HF.out, hl⟩
    · have hl1 : (300 : Int) < (L.length : Int) := by omega
      have hl2 : 300 ≤ L.length := by omega
      have hl3 : 300 ≤ cp := by omega
      have hl4 : (L.take 300).length = 300 := by rw [List.length_take]; omega
      go_wp2_with fail
      go_meet
      refine ⟨rfl, L.take 300, A, cp, ?_, ?_, HF.out.take 300, ?_⟩
      · rw [hl4]
      · rw [hl4]; exact HN.out.take hl2
      · rw [hl4]; exact Nat.le_refl _
  clear HN HF hcp hlen
  obtain ⟨rfl, l, A, c, rfl, hn, hf, hl⟩ := hcut
  obtain ⟨w, rfl⟩ : ∃ wq : World, wq = wc := ⟨_, rfl⟩
  have HN := Lib.hid hn
  have HF := Lib.hid hf
  have HL := Lib.hid hl
  clear hn hf hl
  go_wp2_with fail
  go_loopg [5, 6] l.length (fun g' s5 s6 wr => ∃ k n : Nat, k ≤ l.length ∧ g' = l.length - k ∧ s6 = .int .i64 k ∧ s5 = .int .i64 n ∧ n ≤ 5000 ∧ Below w.heap.size w wr)
  case atStart => exact ⟨0, 0, Nat.zero_le _, rfl, rfl, rfl, Nat.zero_le _, Below.refl _ _⟩
  case round =>
    obtain ⟨k, n, hk, rfl, rfl, rfl, hn5, hb⟩ := hrel
    by_cases hlt : k < l.length
    · have hki : (k : Int) < (l.length : Int) := by omega
      have hk0 : (0 : Int) ≤ (k : Int) := by omega
      obtain ⟨g, o, K, q1, V, q2, C, q3, rfl, _, hsee⟩ := HN.out.see hlt
      have hl3 := HL.out
      obtain ⟨f1, f2, f3⟩ := HF.out.get hlt
      obtain ⟨nd, hnd⟩ : ∃ n, n = l.getD k n0 := ⟨_, rfl⟩
      rw [← hnd] at hsee f1 f2 f3
      obtain ⟨c0, c1, c2⟩ := (hsee wr hb).1
      have HB := Lib.hid hb
      clear hnd hsee hb
      go_upto_region 7 with fail
      go_cut [5] (fun s wz => ∃ m : Nat, s = .int .i64 m ∧ m ≤ 20000 ∧ Below w.heap.size w wz)
      case first =>
       as_aux_lemma =>
        have hB : ∀ m, Below w.heap.size w (wr.drewN m) := fun m => below_drewN HB.out m
        by_cases k1 : (5000 : Int) < (nd.ks.length : Int) <;> by_cases k2 : (5000 : Int) < (nd.vs.length : Int) <;> by_cases k3 : (5000 : Int) < (nd.kids.length : Int)
        all_goals
          go_quiet (fail)
          go_wp2_with fail
          go_meet
          exact close _ _ _ (by omega) (hB _)
      obtain ⟨m, rfl, hm, hbm⟩ := hcut
      obtain ⟨wm, rfl⟩ : ∃ wq : World, wq = wc := ⟨_, rfl⟩
      clear c0 c1 c2 hn5 HB f1 f2 f3
      by_cases hm5 : (5000 : Int) < (m : Int)
      · go_wp2_with (go_at_call 11; (with_reducible refine Calls.mono (known_any _) ?_); rintro e w5 ⟨rfl, hb5⟩)
        go_ret
        exact ⟨rfl, hbm.trans (hb5.mono hbm.size)⟩
      · go_wp2_with fail
        go_roundg (l.length - (k + 1))
        case measure => omega
        case rel => exact ⟨k + 1, m, by omega, rfl, by go_num, rfl, by omega, hbm⟩
    · have hki : ¬ (k : Int) < (l.length : Int) := by omega
      clear hn5
      obtain ⟨wa, rfl⟩ : ∃ wq : World, wq = wr := ⟨_, rfl⟩
      have HB := Lib.hid hb
      have HNA := Lib.hid (show ∀ W, Below wa.heap.size wa W → NdsAt W (.slice A l.length c) l from fun W h => HN.out.on (hb.trans (h.mono hb.size)) (Nat.le_refl _))
      have HCP := Lib.hid (copied_any (HNA.out wa (Below.refl _ _)) (by have := HL.out; omega) HF.out)
      have HBO := Lib.hid (both deg l HL.out (HF.out.fit (by have := HL.out; omega)))
      clear hb
      go_upto_region 11 with (go_at_call 29; (with_reducible refine Calls.mono HCP.out ?_); rintro e w1 ⟨A1, c1, rfl, hO, hb1⟩)
      obtain ⟨wb, rfl⟩ : ∃ wq : World, wq = w1 := ⟨_, rfl⟩
      have HO := Lib.hid hO
      have HB1 := Lib.hid hb1
      clear HCP hO hb1
      rcases HBO.out with ⟨er, hR⟩ | ⟨d, es, hT⟩
      · have he0 : ((er : Int) == 0) = false := by rw [beq_eq_false_iff_ne]; have := hR.no; omega
        have he1 : ((er : Int) != 0) = true := by rw [bne_iff_ne]; have := hR.no; omega
        have he2 : ((er : Int) != er) = false := by simp
        have HR := Lib.hid hR
        have HOF := Lib.hid (hR.of wb A1 c1 HO.out.at_)
        clear hR HBO
        go_upto_region 12 with (go_at_call 25; (with_reducible refine Calls.mono HOF.out ?_); rintro e w2 ⟨rfl, hb2⟩)
        obtain ⟨wd, rfl⟩ : ∃ wq : World, wq = w2 := ⟨_, rfl⟩
        have HB2 := Lib.hid (HB1.out.trans (hb2.mono HB1.out.size))
        have HO2 := Lib.hid (HO.out.on hb2)
        have HRF := Lib.hid (HR.out.rof wd A c (HNA.out wd HB2.out))
        clear hb2 HO HOF
        go_upto_region 13 with (go_at_call 24; (with_reducible refine Calls.mono HRF.out ?_); rintro e w3 ⟨rfl, hb3⟩)
        obtain ⟨we, rfl⟩ : ∃ wq : World, wq = w3 := ⟨_, rfl⟩
        have HB3 := Lib.hid (HB2.out.trans (hb3.mono HB2.out.size))
        have HSN := Lib.hid (sameNodes_any (HO2.out.on hb3).at_ (HNA.out we HB3.out) (by have := HL.out; omega) HF.out)
        clear hb3 HRF
        go_upto_region 15 with (go_at_call 30; (with_reducible refine Calls.mono HSN.out ?_); rintro e w4 ⟨rfl, hb4⟩)
        have HB4 := Lib.hid (HB.out.trans ((HB3.out.trans (hb4.mono HB3.out.size)).mono HB.out.size))
        clear hb4 HSN
        go_wp2_with (go_at_call 11; (with_reducible refine Calls.mono (known_any _) ?_); rintro e w5 ⟨rfl, hb5⟩)
        go_ret
        exact ⟨rfl, HB4.out.trans (hb5.mono HB4.out.size)⟩
      · obtain rfl := hT.is
        have HT := Lib.hid hT
        have HOF := Lib.hid (hT.of wb A1 c1 HO.out.at_)
        clear hT HBO
        go_upto_region 12 with (go_at_call 25; (with_reducible refine Calls.mono HOF.out ?_); rintro e w2 ⟨tr, rfl, hH⟩)
        obtain ⟨wd, rfl⟩ : ∃ wq : World, wq = w2 := ⟨_, rfl⟩
        have HH := Lib.hid hH
        have HRF := Lib.hid (HT.out.rof wd A c (HNA.out wd (HB1.out.trans (hH.bel.mono HB1.out.size))))
        clear hH HOF
        go_upto_region 13 with (go_at_call 24; (with_reducible refine Calls.mono HRF.out ?_); rintro e w3 ⟨A3, c3, lv, rfl, hE, hb3⟩)
        obtain ⟨we, rfl⟩ : ∃ wq : World, wq = w3 := ⟨_, rfl⟩
        have hbb : Below wb.heap.size wb we := HH.out.bel.trans (hb3.mono HH.out.bel.size)
        have HSN := Lib.hid (sameNodes_any (HO.out.on hbb).at_ (HNA.out we (HB1.out.trans (hbb.mono HB1.out.size))) (by have := HL.out; omega) HF.out)
        have HE := Lib.hid hE
        have HB3 := Lib.hid hb3
        have HBB := Lib.hid hbb
        clear hb3 HRF hE hbb
        go_upto_region 17 with (go_at_call 30; (with_reducible refine Calls.mono HSN.out ?_); rintro e w4 ⟨rfl, hb4⟩)
        obtain ⟨wf, rfl⟩ : ∃ wq : World, wq = w4 := ⟨_, rfl⟩
        have HB4 := Lib.hid hb4
        have HSP := Lib.hid (spoilt_any (HO.out.sp (HBB.out.trans (hb4.mono HBB.out.size))) (by have := HL.out; omega))
        clear hb4 HSN
        go_upto_region 18 with (go_at_call 31; (with_reducible refine Calls.mono HSP.out ?_); rintro e w5 ⟨rfl, hsp⟩)
        obtain ⟨wg, rfl⟩ : ∃ wq : World, wq = w5 := ⟨_, rfl⟩
        have hlt1 : ∀ x ∈ List.range' wa.heap.size (wb.heap.size - wa.heap.size), x < wb.heap.size := fun x hx => by have := HB1.out.size; rw [List.mem_range'_1] at hx; omega
        have HHG := Lib.hid ((HH.out.on (HB3.out.trans (HB4.out.mono HB3.out.size))).away hsp.touch hlt1)
        have HEG := Lib.hid ((HE.out.on HB4.out).away hsp.touch (fun x hx => Nat.lt_of_lt_of_le (hlt1 x hx) HH.out.bel.size))
        have HBG := Lib.hid (HB.out.trans ((spl_below hsp (HB1.out.trans ((HBB.out.trans (HB4.out.mono HBB.out.size)).mono HB1.out.size)) (by have h1 := HB1.out.size; have h2 := HBB.out.size; have h3 := HB4.out.size; omega)).mono HB.out.size))
        clear hsp hlt1 HSP HB4 HBB HB3 HE HH HO
        have HLN := Lib.hid HHG.out.len
        have hne : ((es.length : Int) != (es.length : Int)) = false := by simp
        go_upto_region 20 with (go_at_call 28; (with_reducible refine Calls.mono HLN.out ?_); rintro e w6 ⟨rfl, rfl⟩)
        clear HLN hne HNA HB HB1 HF HL HN
        have HEN := Lib.hid HEG.out.ens
        have hes : es.length ≤ 9300 := HT.out.len
        clear HEG
        go_wp2_with fail
        go_loopg [13] es.length (fun g' s wr => ∃ k : Nat, k ≤ es.length ∧ g' = es.length - k ∧ s = .int .i64 k ∧ Below wg.heap.size wg wr)
        case atStart => exact ⟨0, Nat.zero_le _, rfl, rfl, Below.refl _ _⟩
        case round =>
          obtain ⟨j, hj, rfl, rfl, hbw⟩ := hrel
          by_cases hlt : j < es.length
          · obtain ⟨A', c', h1, _, _, hS⟩ := HEN.out
            cases h1
            obtain ⟨b, off, rfl, hbl, hS⟩ := hS (by omega)
            obtain ⟨h0, h1, h2⟩ := hS j hlt
            rw [← hbw.cell (p := ⟨b, _, none⟩) hbl] at h0 h1 h2
            have hfd := up_find HT.out.up hlt
            obtain ⟨x, hx⟩ : ∃ x, x = es.getD j e0 := ⟨_, rfl⟩
            rw [← hx] at h0 h1 h2 hfd
            clear hx hS
            obtain ⟨⟨x1, x2⟩, x3⟩ := x
            have HGT := Lib.hid ((HHG.out.on hbw).getIs HT.out.hi hfd.1 hfd.2)
            have hbl2 := Nat.lt_of_lt_of_le hbl hbw.size
            have HV := Lib.hid (show ∀ W, Below wr.heap.size wr W → W.cell? ⟨b, off + j * 3 + 2, none⟩ = some (.int .i64 x3) from fun W h => by rw [h.cell (p := ⟨b, _, none⟩) hbl2]; exact h2)
            have HBW := Lib.hid hbw
            have hki : (j : Int) < (es.length : Int) := by omega
            have hk0 : (0 : Int) ≤ (j : Int) := by omega
            clear hbw hfd hbl hbl2 h2
            go_upto_region 24 with (go_at_call 21; (with_reducible refine Calls.mono HGT.out ?_); rintro e w7 ⟨rfl, hb7⟩)
            have h2 := HV.out _ hb7
            have hne3 : ((x3 : Int) != x3) = false := by simp
            have HB7 := Lib.hid (HBW.out.trans (hb7.mono HBW.out.size))
            clear hb7 HGT HV h0 h1
            go_wp2_with fail
            go_roundg (es.length - (j + 1))
            case measure => omega
            case rel => exact ⟨j + 1, by omega, rfl, by go_num, HB7.out⟩
          · have hki : ¬ (j : Int) < (es.length : Int) := by omega
            obtain ⟨wh, rfl⟩ : ∃ wq : World, wq = wr := ⟨_, rfl⟩
            have HND := Lib.hid ((HHG.out.on hbw).nodes HT.out.lo HT.out.hi (by omega))
            have HEH := Lib.hid (HEN.out.on hbw (Nat.le_refl _))
            have HBH := Lib.hid (HBG.out.trans (hbw.mono HBG.out.size))
            have h30 : es.length ≤ 30000 := by omega
            clear hbw
            go_upto_region 27 with (first
              | (go_at_call 23; (with_reducible refine Calls.mono HND.out ?_); rintro e w7 ⟨A9, l9, c9, rfl, hO9, hb9, hP9⟩; have HF9 := Lib.hid (rof_nodes HT.out.lo HT.out.hi HT.out.up h30 hP9 hO9.at_))
              | (go_at_call 24; (with_reducible refine Calls.mono HF9.out ?_); rintro e w8 ⟨A8, c8, lv8, rfl, hE8, hb8⟩))
            have hbd : Below wh.heap.size wh w8 := hb9.trans (hb8.mono hb9.size)
            have HSA := Lib.hid (same_any hE8 (HEH.out.on hbd (Nat.le_refl _)) (by omega))
            rw [decide_eq_true rfl] at HSA
            have HB8 := Lib.hid (HBH.out.trans (hbd.mono HBH.out.size))
            clear hbd hE8 hb8 hb9 hO9 hP9 HF9 HND
            go_wp2_with (first
              | (go_at_call 15; (with_reducible refine Calls.mono HSA.out ?_); rintro e w9 ⟨rfl, hb9⟩)
              | (go_at_call 11; (with_reducible refine Calls.mono (known_any _) ?_); rintro e w10 ⟨rfl, hb10⟩))
            go_ret
            exact ⟨rfl, (HB8.out.trans (hb9.mono HB8.out.size)).trans (hb10.mono (HB8.out.trans (hb9.mono HB8.out.size)).size)⟩

theorem own : ownKnob Try.prog.godebug = none := by kernel_rfl

set_option maxRecDepth 100000 in
theorem lifted (os : Os) (started : os.Started) (H : Type) (enc : TypeId × Value → H) :
    ReturnsInHanded {} Try.checked os 8 .any (Rows.treeOfSpec.pre6 enc Try.prog Try.f8 Rows.treeOfRow.domain false) (Rows.treeOfSpec.post enc Try.prog Try.f8 false true false false) := by
  refine law_lifted (C := Try.checked) (tb := 4) own started (by kernel_rfl) Try.func8
    (ChangeSpec.witness6 (enc := enc) (C := Try.checked) false ⟨#[], #[.int .i64 0, .slice none 0 0], []⟩ 8 (by kernel_rfl) (by kernel_rfl) (by kernel_rfl) (by kernel_rfl))
    rfl (by kernel_rfl) (by kernel_rfl) (by kernel_rfl) Try.underlying4 (fun ds h => ?_) ?_
  · rw [show Try.f8.params = #[3, 51] from Try.params8] at h
    match ds, h with
    | [_, _], _ => rfl
  · intro W base args ds before hval hA hlt hsz
    rw [show Try.f8.params = #[3, 51] from Try.params8] at hA hval hsz
    obtain ⟨v0, vs0, d0, ds0, p0, q0, hargs, rfl, rfl, h0, r0⟩ := trodAll_cons hA
    obtain ⟨v1, vs1, d1, ds1, p1, q1, rfl, rfl, rfl, h1, r1⟩ := trodAll_cons r0
    obtain ⟨rfl, rfl, rfl⟩ := trodAll_nil r1
    obtain rfl : args = #[v0, v1] := by cases args; simp_all
    obtain ⟨n0, rfl, _, _, wf0⟩ := open_int Try.underlying3 (hval 0 _ v0 rfl rfl) h0
    obtain ⟨L, hL, hf, hl⟩ := open_nodes (hval 1 _ v1 rfl rfl) h1 hsz (j := 1) rfl rfl
    exact walk n0 v1 L W hL hf hl

theorem proved : Rows.TreeOfSaid :=
  OpenClaim.holds_of_wide 8 Try.f8 rfl rfl rfl rfl rfl rfl rfl ⟨rfl, rfl, rfl, rfl, rfl⟩ rfl rfl rfl rfl rfl (by kernel_rfl) Try.func8 (by kernel_rfl)
    (of_decide_eq_true (by kernel_rfl)) (by unfold Func.isWrapper; rw [if_neg (of_decide_eq_false (by kernel_rfl))]; exact ⟨rfl, rfl⟩)
    (fun os started H enc _ => lifted os started H enc)
#print axioms proved
end TreeOf
end Go.Proofs.Ytmmikolcipcldaa
