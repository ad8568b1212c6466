/-
  What is proved here: a page that is given by number, and all under it, is gone through as the document says (the document's walk over pages). Conditions: each theorem's own.
-/
import Derived.Test.YtmmikolcipcldaaTreeWk
import Derived.Test.YtmmikolcipcldaaTreeOwnN
import Derived.Test.YtmmikolcipcldaaFHeld
import Derived.TacticsInMore
namespace Go.Proofs.Ytmmikolcipcldaa
open Go.RowKit Go.Deep

set_option maxRecDepth 100000 in
set_option maxHeartbeats 4000000 in
theorem wpage_any {w0 : World} {b sb d : Nat} {lv : Value} {nds : List NdR} (hd2 : 2 ≤ d) (hd : d ≤ 16) (hnds : NdsAt w0 lv nds) (hfit : NdsFit nds) : ∀ (f : Nat) (S : WkS) (W : World) (at_ : Int) (deep : Nat),
    WkIn w0 b sb lv nds S W → S.right = true → unseen S.seen < f → S.out.length + 31 * unseen S.seen ≤ 1000000 → 1 ≤ deep → deep + unseen S.seen ≤ 100000000 →
    Calls Try.prog 38 #[.pointer (some ⟨b, 0, none⟩), .int .i64 at_, .int .i64 deep, .int .i64 d] W (WkOut w0 b sb lv nds S (vis nds d f at_ deep S.seen S.deep) W) := by
  intro f
  induction f with
  | zero =>
    intro S W at_ deep _ _ hf
    exact absurd hf (by omega)
  | succ f ih =>
    intro S W at_ deep hin hright hf hroom hdp hdu
    have IH := Lib.hid ih
    clear ih
    have HNDS := Lib.hid hnds
    obtain ⟨A, c, rfl, hc, hN⟩ := hnds
    have HB := Lib.hid (show (W.cell? ⟨b, 0, none⟩ = some (.slice A nds.length c) ∧ W.cell? ⟨b, 1, none⟩ = some (.slice (some ⟨sb, 0, none⟩) S.seen.length S.seen.length)) from by
      obtain ⟨ov, h1, _⟩ := hin.wk.blk
      exact ⟨h1.cell 0, h1.cell 1⟩)
    have HIN := Lib.hid hin
    have HNUM := Lib.hid (And.intro hf (And.intro hroom (And.intro hdu (And.intro hd2 (And.intro hd (And.intro hright hfit.1))))))
    have HFIT := Lib.hid hfit
    clear hin hN hf hroom hdu hd2 hd hright hfit hc
    obtain ⟨sn, hsn⟩ : ∃ sn, sn = S.seen.length := ⟨_, rfl⟩
    rw [← hsn] at HB
    have HSN := Lib.hid hsn
    clear hsn
    obtain ⟨bad, hbad⟩ : ∃ bad, bad = (decide (at_ < 0 ∨ (nds.length : Int) ≤ at_) || (S.seen.getD at_.toNat true || !okNd d (decide (at_ = 0)) (nds.getD at_.toNat n0))) := ⟨_, rfl⟩
    have HBAD := Lib.hid hbad
    clear hbad
    go_enter Try.func38, Try.ntmps38
    go_upto_region 0 with fail
    go_cut [43] (fun s wz => s = .bool bad ∧ Below W.heap.size W wz)
    case first =>
      obtain ⟨b0, b1⟩ := HB.out
      by_cases h1 : at_ < 0
      · obtain rfl : bad = true := by rw [HBAD.out, decide_eq_true (.inl h1)]; rfl
        go_wp2_with fail
        go_meet
        exact ⟨rfl, Below.refl _ _⟩
      · have h10 : (0 : Int) ≤ at_ := by omega
        by_cases h2 : (nds.length : Int) ≤ at_
        · obtain rfl : bad = true := by rw [HBAD.out, decide_eq_true (.inr h2)]; rfl
          go_wp2_with fail
          go_meet
          exact ⟨rfl, Below.refl _ _⟩
        · obtain ⟨a, rfl⟩ : ∃ a : Nat, at_ = (a : Int) := ⟨at_.toNat, by omega⟩
          have hal : a < nds.length := by omega
          have h3 : (a : Int) < (sn : Int) := by rw [HSN.out, HIN.out.seen]; omega
          have hs := HIN.out.wk.flag (a := a) (by have := HSN.out; omega)
          have hbad2 : bad = (S.seen.getD a true || !okNd d (decide ((a : Int) = 0)) (nds.getD a n0)) := by rw [HBAD.out, decide_eq_false (by omega), Bool.false_or, Int.toNat_natCast]
          obtain ⟨fl, hfl⟩ : ∃ fl, fl = S.seen.getD a true := ⟨_, rfl⟩
          rw [← hfl] at hs hbad2
          have HFL := Lib.hid hfl
          clear hfl
          cases fl
          · obtain ⟨g, o, K, q1, V, q2, C, q3, rfl, hc, hsee⟩ := HNDS.out.see hal
            obtain ⟨⟨c1, c2, c3⟩, _⟩ := hsee W HIN.out.low
            have hnf := HFIT.out.2 (nds.getD a n0) (by rw [List.getD_eq_getElem?_getD, List.getElem?_eq_getElem hal]; exact List.getElem_mem hal)
            obtain ⟨n, hn⟩ : ∃ n, n = nds.getD a n0 := ⟨_, rfl⟩
            rw [← hn] at c1 c2 c3 hnf hbad2
            obtain ⟨root, hroot⟩ : ∃ r, r = decide ((a : Int) = 0) := ⟨_, rfl⟩
            have hb0 : ((a : Int) == 0) = root := by rw [hroot]; rfl
            rw [← hroot] at hbad2
            obtain ⟨q, hq⟩ : ∃ q, q = okNd d root n := ⟨_, rfl⟩
            have HSZ := Lib.hid (sized_any (K := K) (V := V) (C := C) (q1 := q1) (q2 := q2) (q3 := q3) HNUM.out.2.2.2.1 HNUM.out.2.2.2.2.1 hnf root W)
            rw [← hq] at HSZ hbad2
            obtain rfl : bad = !q := by rw [hbad2, Bool.false_or]
            clear hn hroot hq hnf hsee hbad2
            go_wp2_with (go_at_call 52; (with_reducible refine Calls.mono HSZ.out ?_); rintro e w1 ⟨rfl, hb1⟩)
            go_meet
            exact ⟨rfl, hb1⟩
          · obtain rfl : bad = true := by rw [hbad2, Bool.true_or]
            clear hbad2
            go_wp2_with fail
            go_meet
            exact ⟨rfl, Below.refl _ _⟩
    obtain ⟨rfl, hbz⟩ := hcut
    obtain ⟨wz, rfl⟩ : ∃ wq : World, wq = wc := ⟨_, rfl⟩
    have hinz := HIN.out.on hbz
    have HBZ := Lib.hid hbz
    clear hbz
    cases bad
    · obtain ⟨h1, h2⟩ := Bool.or_eq_false_iff.1 HBAD.out.symm
      obtain ⟨h2, h3⟩ := Bool.or_eq_false_iff.1 h2
      rw [decide_eq_false_iff_not] at h1
      obtain ⟨a, rfl⟩ : ∃ a : Nat, at_ = (a : Int) := ⟨at_.toNat, by omega⟩
      rw [Int.toNat_natCast] at h2 h3
      have hal : a < nds.length := by omega
      have hok : okNd d (decide ((a : Int) = 0)) (nds.getD a n0) = true := by simpa using h3
      obtain ⟨g, o, K, q1, V, q2, C, q3, rfl, hc, hsee⟩ := HNDS.out.see hal
      obtain ⟨n, hn⟩ : ∃ n, n = nds.getD a n0 := ⟨_, rfl⟩
      rw [← hn] at hok hsee
      have hvis := vis_kids (d := d) (f := f) (deep := deep) (leaves := S.deep) (seen := S.seen) hn hal h2 hok
      have hun := unseen_set (s := S.seen) (i := a) (by rw [hinz.seen]; exact hal) h2
      obtain ⟨snw, hsnw⟩ : ∃ s, s = S.seen.set a true := ⟨_, rfl⟩
      rw [← hsnw] at hvis hun
      obtain ⟨hk1, hk2, hk3, hk4⟩ : 1 ≤ n.ks.length ∧ n.ks.length ≤ 31 ∧ n.vs.length = n.ks.length ∧ (n.kids.length = 0 ∨ n.kids.length = n.ks.length + 1) := by
        unfold okNd at hok
        simp only [Bool.and_eq_true, decide_eq_true_eq] at hok
        obtain ⟨a1, a2, a3, a4⟩ := hok
        have := HNUM.out.2.2.2.1
        have := HNUM.out.2.2.2.2.1
        exact ⟨by split at a1 <;> omega, by omega, a3, a4⟩
      have hkl : n.kids.length ≤ 32 := by omega
      obtain ⟨full, hfull⟩ : ∃ full, full = vis nds d (f + 1) (a : Int) deep S.seen S.deep := ⟨_, rfl⟩
      rw [← hfull] at hvis
      have HFULL := Lib.hid hfull
      have HSEE := Lib.hid hsee
      have HVIS := Lib.hid hvis
      have HUN := Lib.hid hun
      have HSW := Lib.hid hsnw
      have HK := Lib.hid (And.intro hk3 (And.intro hk4 hk2))
      obtain ⟨ov, hbk, _⟩ := hinz.wk.blk
      have b1 : wz.cell? ⟨b, 1, none⟩ = some (.slice (some ⟨sb, 0, none⟩) sn sn) := by rw [HSN.out]; exact hbk.cell 1
      have ai : (a : Int) < (sn : Int) := by rw [HSN.out, hinz.seen]; omega
      have ai2 : (a : Int) < (nds.length : Int) := by omega
      have a0 : (0 : Int) ≤ (a : Int) := by omega
      have cs := hinz.wk.flag (a := a) (by rw [hinz.seen]; exact hal)
      have fs := hinz.wk.row.frozen a
      obtain ⟨fl, hfl⟩ : ∃ fl, fl = S.seen.getD a true := ⟨_, rfl⟩
      rw [← hfl] at cs
      obtain ⟨k1, k2⟩ := hinz.wk.setSeen a
      have hS1 := WkIn.mk k1 (hinz.low.setCell hinz.b2 _) hinz.b1 hinz.b2 (by simpa using hinz.seen)
      have HS1 := Lib.hid (And.intro hS1 k2)
      clear hfull hvis hun hsnw hok hsee h1 h2 h3 hn hk1 hk2 hk3 hk4 hinz hbk hfl k1 k2 hS1
      go_upto_region 3 with fail
      obtain ⟨w1, hw1⟩ : ∃ w1, w1 = wz.setCell ⟨sb, a, none⟩ (.bool true) := ⟨_, rfl⟩
      rw [← hw1] at HS1 ⊢
      have HW1 := Lib.hid hw1
      clear hw1 cs fs b1 ai
      obtain ⟨⟨c1, c2, c3⟩, _⟩ := HSEE.out w1 HS1.out.1.low
      obtain ⟨ov1, hbk1, _⟩ := HS1.out.1.wk.blk
      have b0 : w1.cell? ⟨b, 0, none⟩ = some (.slice (some ⟨g, o, none⟩) nds.length c) := hbk1.cell 0
      clear hbk1
      go_upto_region 4 with fail
      obtain ⟨w2, hw2⟩ : ∃ w2, w2 = w1.alloc (.cells #[.slice K n.ks.length q1, .slice V n.vs.length q2, .slice C n.kids.length q3] 60) := ⟨_, rfl⟩
      rw [← hw2]
      obtain ⟨nb, hnb⟩ : ∃ nb, nb = w1.heap.size := ⟨_, rfl⟩
      rw [← hnb]
      have hnk : Blk w2 nb 60 #[.slice K n.ks.length q1, .slice V n.vs.length q2, .slice C n.kids.length q3] := by rw [hw2, hnb]; exact Blk.new _ _ _
      have hb12 : Below w1.heap.size w1 w2 := by rw [hw2]; exact (Below.refl _ _).alloc (Nat.le_refl _) _
      have hin2 := HS1.out.1.on hb12
      have HW2 := Lib.hid (And.intro hin2 (And.intro hnk (((Below.keepW HBZ.out).trans HS1.out.2).trans (Below.keepW hb12))))
      have n2 : w2.cell? ⟨nb, 2, none⟩ = some (.slice C n.kids.length q3) := hnk.cell 2
      have hdp2 := hdp
      obtain ⟨lf, hlf⟩ : ∃ lf, lf = ((n.kids.length : Int) == 0) := ⟨_, rfl⟩
      have hlf2 : lf = decide (n.kids.length = 0) := by
        rw [hlf]
        by_cases h : n.kids.length = 0
        · rw [h]; rfl
        · rw [decide_eq_false h]; exact beq_eq_false_iff_ne.2 (by omega)
      have hlf3 : ((n.kids.length : Int) == 0) = lf := hlf.symm
      have HLF := Lib.hid hlf2
      clear hw2 hnb hnk hb12 hin2 hlf hlf2 c1 c2 c3 b0 a0 ai2 HB HBAD
      go_upto_if 63 with fail
      go_cut [] (fun wv => ∃ Sx, WkL w0 W b sb (.slice (some ⟨g, o, none⟩) nds.length c) nds S snw n nb #[.slice K n.ks.length q1, .slice V n.vs.length q2, .slice C n.kids.length q3] (wkG nds d f deep lf) full 0 Sx wv)
      case first =>
        cases lf
        · have HK0 := Lib.hid (show ¬ n.kids.length = 0 from of_decide_eq_false HLF.out.symm)
          clear n2 hlf3
          go_wp2_with fail
          go_meet
          refine ⟨{ S with seen := S.seen.set a true }, HW2.out.1, HW2.out.2.2, HW2.out.2.1, .inl ⟨HNUM.out.2.2.2.2.2.1, ⟨snw, S.deep, []⟩, ?_, ?_, Nat.le_refl _, by simp⟩⟩
          · rw [List.append_nil, HSW.out, ← HNUM.out.2.2.2.2.2.1]
          · have h := HVIS.out
            rw [if_neg (fun h => HK0.out h.1), if_neg HK0.out, decide_eq_false HK0.out] at h
            exact h
        · have HK0 := Lib.hid (show n.kids.length = 0 from of_decide_eq_true HLF.out.symm)
          obtain ⟨lvs, hlvs⟩ : ∃ lvs, lvs = S.deep := ⟨_, rfl⟩
          obtain ⟨ov2, hbk2, _⟩ := HW2.out.1.wk.blk
          have b4 : w2.cell? ⟨b, 4, none⟩ = some (.bool true) := by rw [← HNUM.out.2.2.2.2.2.1]; exact hbk2.cell 4
          have b3 : w2.cell? ⟨b, 3, none⟩ = some (.int .i64 lvs) := by rw [hlvs]; exact hbk2.cell 3
          have f4 := hbk2.frozen 4
          have f3 := hbk2.frozen 3
          have HST := Lib.hid (show ∀ q, WkIn w0 b sb (.slice (some ⟨g, o, none⟩) nds.length c) nds ⟨S.seen.set a true, deep, S.out, q⟩ ((w2.setCell ⟨b, 4, none⟩ (.bool q)).setCell ⟨b, 3, none⟩ (.int .i64 deep)) ∧ KeepW w2 ((w2.setCell ⟨b, 4, none⟩ (.bool q)).setCell ⟨b, 3, none⟩ (.int .i64 deep)) from fun q => by
            obtain ⟨k1, k2⟩ := HW2.out.1.wk.setRight q
            obtain ⟨k3, k4⟩ := k1.setDeep deep
            exact ⟨⟨k3, (HW2.out.1.low.setCell HW2.out.1.b1 _).setCell HW2.out.1.b1 _, HW2.out.1.b1, HW2.out.1.b2, HW2.out.1.seen⟩, k2.trans k4⟩)
          have HLV := Lib.hid hlvs
          clear n2 hlf3 hlvs hbk2
          have hok : ∀ (Y : World), (lvs = 0 ∨ lvs = deep) → Y = ((w2.setCell ⟨b, 4, none⟩ (.bool true)).setCell ⟨b, 3, none⟩ (.int .i64 deep)) → ∃ Sx, WkL w0 W b sb (.slice (some ⟨g, o, none⟩) nds.length c) nds S snw n nb #[.slice K n.ks.length q1, .slice V n.vs.length q2, .slice C n.kids.length q3] (wkG nds d f deep true) full 0 Sx Y := fun Y h hY => by
            subst hY
            obtain ⟨k1, k2⟩ := HST.out true
            refine ⟨_, k1, HW2.out.2.2.trans k2, k2.block _ _ _ HW2.out.2.1 (by decide) (by decide) (by decide), .inl ⟨rfl, ⟨snw, deep, []⟩, ?_, ?_, Nat.le_refl _, by simp⟩⟩
            · rw [List.append_nil, HSW.out]
            · have h' := HVIS.out
              rw [if_neg (fun hh => hh.2 (by rw [← HLV.out]; exact h)), if_pos HK0.out, decide_eq_true HK0.out] at h'
              exact h'
          have HOK := Lib.hid hok
          clear hok
          by_cases l0 : lvs = 0
          · have g0 : ((lvs : Int) == 0) = true := by rw [beq_iff_eq]; omega
            have L0 := Lib.hid l0
            clear l0
            go_wp2_with fail
            go_meet
            exact HOK.out _ (.inl L0.out) rfl
          · have g0 : ((lvs : Int) == 0) = false := by rw [beq_eq_false_iff_ne]; omega
            by_cases l1 : lvs = deep
            · have g1 : ((lvs : Int) == (deep : Int)) = true := by rw [beq_iff_eq]; omega
              have L1 := Lib.hid l1
              clear l0 l1
              go_wp2_with fail
              go_meet
              exact HOK.out _ (.inr L1.out) rfl
            · have g1 : ((lvs : Int) == (deep : Int)) = false := by rw [beq_eq_false_iff_ne]; omega
              have L1 := Lib.hid (show ¬ (lvs = 0 ∨ lvs = deep) by omega)
              clear l0 l1
              go_wp2_with fail
              go_meet
              obtain ⟨k1, k2⟩ := HST.out false
              refine ⟨_, k1, HW2.out.2.2.trans k2, k2.block _ _ _ HW2.out.2.1 (by decide) (by decide) (by decide), .inr ⟨rfl, ?_⟩⟩
              have h' := HVIS.out
              rw [if_pos ⟨HK0.out, by rw [← HLV.out]; exact L1.out⟩] at h'
              exact h'
      obtain ⟨S0, hL0⟩ := hcut
      have HL0 := Lib.hid hL0
      obtain ⟨wv, rfl⟩ : ∃ wq : World, wq = wc := ⟨_, rfl⟩
      clear hL0 n2 hlf3
      go_wp2_with fail
      go_loopg [9] (n.ks.length + 1) (fun g' i wr => ∃ (x : Nat) (Sx : WkS), x ≤ n.ks.length + 1 ∧ g' = n.ks.length + 1 - x ∧ i = .int .i64 x ∧ WkL w0 W b sb (.slice (some ⟨g, o, none⟩) nds.length c) nds S snw n nb #[.slice K n.ks.length q1, .slice V n.vs.length q2, .slice C n.kids.length q3] (wkG nds d f deep lf) full x Sx wr)
      case atStart => exact ⟨0, S0, Nat.zero_le _, rfl, rfl, HL0.out⟩
      case round =>
        clear HL0
        obtain ⟨x, Sx, hx, rfl, rfl, hL⟩ := hrel
        have hks : n.ks.length ≤ 31 := HK.out.2.2
        have hx0 : (0 : Int) ≤ (x : Int) := by omega
        obtain ⟨ovx, hbx, _⟩ := hL.wk.wk.blk
        have b4 : wr.cell? ⟨b, 4, none⟩ = some (.bool Sx.right) := hbx.cell 4
        have n0c : wr.cell? ⟨nb, 0, none⟩ = some (.slice K n.ks.length q1) := hL.nbk.cell 0
        obtain ⟨rt, hrt⟩ : ∃ rt, rt = Sx.right := ⟨_, rfl⟩
        rw [← hrt] at b4
        have HRT := Lib.hid hrt
        have HL := Lib.hid hL
        clear hbx hL hrt
        by_cases hlt : x ≤ n.ks.length
        · have hki : (x : Int) ≤ (n.ks.length : Int) := by omega
          cases rt
          · go_wp2_with fail
            go_end0
            rw [← HFULL.out]
            exact HL.out.done (.inl HRT.out.symm)
          · go_upto_region 10 with fail
            clear b4 n0c
            have n2c : wr.cell? ⟨nb, 2, none⟩ = some (.slice C n.kids.length q3) := HL.out.nbk.cell 2
            have hsz := HL.out.size HRT.out.symm (by omega) (show S.out.length + 31 * (unseen snw + 1) ≤ 1000000 by have h1 := HNUM.out.2.1; have h2 := HUN.out; omega)
            have HSZ := Lib.hid hsz
            clear hsz
            go_upto_if 106 with fail
            go_cut [] (fun wm => ∃ Sm, WkM w0 W b sb (.slice (some ⟨g, o, none⟩) nds.length c) nds S snw n nb #[.slice K n.ks.length q1, .slice V n.vs.length q2, .slice C n.kids.length q3] (wkG nds d f deep lf) full x Sm wm)
            case first =>
              cases lf
              · have hk0 : ¬ n.kids.length = 0 := of_decide_eq_false HLF.out.symm
                have hkn : n.kids.length = n.ks.length + 1 := HK.out.2.1.resolve_left hk0
                have hp1 : 0 < n.kids.length := by omega
                have hp2 : (0 : Int) < (n.kids.length : Int) := by omega
                have hzl : (x : Int) < (n.kids.length : Int) := by omega
                obtain ⟨A', c', heq, _, hh⟩ := (HSEE.out wr HL.out.wk.low).2.kids
                cases heq
                obtain ⟨gc, oc, rfl, _, hcl⟩ := hh hp1
                have cx := hcl x (by omega)
                obtain ⟨kz, hkz⟩ : ∃ kz, kz = n.kids.getD x 0 := ⟨_, rfl⟩
                rw [← hkz] at cx
                have hwd : IntKind.i64.wrap ((deep : Int) + 1) = (deep : Int) + 1 := IntWalk.i64_in _ (by have := HNUM.out.2.2.1; omega)
                have hrec := IH.out Sx wr kz (deep + 1) HL.out.wk HRT.out.symm (by have h1 := HNUM.out.1; have h2 := HUN.out; have h3 := HSZ.out.1; omega) HSZ.out.2 (by omega) (by have h1 := HNUM.out.2.2.1; have h2 := HUN.out; have h3 := HSZ.out.1; omega)
                rw [show ((deep + 1 : Nat) : Int) = (deep : Int) + 1 by omega] at hrec
                have HREC := Lib.hid hrec
                have HKZ := Lib.hid hkz
                clear hk0 hkn hcl hkz hrec hh
                go_wp2_with (go_at_call 38; (with_reducible refine Calls.mono HREC.out ?_); rintro e w5 ⟨rfl, hk5, hS5⟩)
                go_meet
                exact HL.out.kid HNUM.out.2.2.2.2.1 hlt HRT.out.symm (Below.refl _ _) (e := .returned (.tuple #[])) (by rw [← HKZ.out]; exact ⟨rfl, hk5, hS5⟩)
              · have hk0 : n.kids.length = 0 := of_decide_eq_true HLF.out.symm
                have hp1 : decide (0 < n.kids.length) = false := by rw [decide_eq_false_iff_not]; omega
                have hp2 : ¬ 0 < n.kids.length := by omega
                have HM0 := Lib.hid (HL.out.leaf hlt)
                clear hk0
                go_wp2_with fail
                go_meet
                exact ⟨_, HM0.out⟩
            obtain ⟨Sm, hM⟩ := hcut
            obtain ⟨wm, rfl⟩ : ∃ wq : World, wq = wc := ⟨_, rfl⟩
            clear n2c HSZ HL HRT
            obtain ⟨ov, hbm, hov⟩ := hM.wk.wk.blk
            have b4 : wm.cell? ⟨b, 4, none⟩ = some (.bool Sm.right) := hbm.cell 4
            have n0c : wm.cell? ⟨nb, 0, none⟩ = some (.slice K n.ks.length q1) := hM.nbk.cell 0
            obtain ⟨rm, hrm⟩ : ∃ rm, rm = Sm.right := ⟨_, rfl⟩
            rw [← hrm] at b4
            have HRM := Lib.hid hrm
            have HM := Lib.hid hM
            have HOV := Lib.hid (And.intro hbm hov)
            clear hM hbm hov hrm
            by_cases hl2 : x < n.ks.length
            · have hli : (x : Int) < (n.ks.length : Int) := by omega
              cases rm
              · go_wp2_with fail
                go_roundg (n.ks.length + 1 - (x + 1))
                case measure => omega
                case rel => exact ⟨x + 1, Sm, by omega, rfl, by go_num, HM.out.wrong HRM.out.symm⟩
              · have hvl : n.vs.length = n.ks.length := HK.out.1
                have hlv : (x : Int) < (n.vs.length : Int) := by omega
                obtain ⟨gk, ok, rfl, hkc⟩ : ∃ gk ok, K = some ⟨gk, ok, none⟩ ∧ ∀ X, Below w0.heap.size w0 X → X.cell? ⟨gk, ok + x * 2, none⟩ = some (.int .i64 (n.ks.getD x k0).t) ∧ X.cell? ⟨gk, ok + x * 2 + 1, none⟩ = some (.int .i64 (n.ks.getD x k0).s) := by
                  obtain ⟨A', c', heq, _, hh⟩ := (HSEE.out wm HM.out.wk.low).2.ks
                  cases heq
                  obtain ⟨g1, o1, e1, _⟩ := hh (by omega)
                  refine ⟨g1, o1, e1, fun X hX => ?_⟩
                  obtain ⟨A', c', heq, _, hh2⟩ := (HSEE.out X hX).2.ks
                  cases heq
                  obtain ⟨g2, o2, e2, _, hcl⟩ := hh2 (by omega)
                  cases e1
                  cases e2
                  exact hcl x hl2
                obtain ⟨gv, oo, rfl, hvc⟩ : ∃ gv oo, V = some ⟨gv, oo, none⟩ ∧ ∀ X, Below w0.heap.size w0 X → X.cell? ⟨gv, oo + x, none⟩ = some (.int .i64 (n.vs.getD x 0)) := by
                  obtain ⟨A', c', heq, _, hh⟩ := (HSEE.out wm HM.out.wk.low).2.vs
                  cases heq
                  obtain ⟨g1, o1, e1, _⟩ := hh (by omega)
                  refine ⟨g1, o1, e1, fun X hX => ?_⟩
                  obtain ⟨A', c', heq, _, hh2⟩ := (HSEE.out X hX).2.vs
                  cases heq
                  obtain ⟨g2, o2, e2, _, hcl⟩ := hh2 (by omega)
                  cases e1
                  cases e2
                  exact hcl x (by omega)
                obtain ⟨⟨kt, kk⟩, hky⟩ : ∃ k, k = n.ks.getD x k0 := ⟨_, rfl⟩
                obtain ⟨kv, hkv⟩ : ∃ v, v = n.vs.getD x 0 := ⟨_, rfl⟩
                rw [← hky] at hkc
                rw [← hkv] at hvc
                have HENT := Lib.hid (show n.ent x = (⟨kt, kk⟩, kv) from by unfold NdR.ent; rw [← hky, ← hkv])
                have HS13 := Lib.hid (show ∀ X, Below wm.heap.size wm X → (X.cell? ⟨b, 2, none⟩ = some ov ∧ X.cell? ⟨nb, 0, none⟩ = some (.slice (some ⟨gk, ok, none⟩) n.ks.length q1) ∧ X.cell? ⟨gk, ok + x * 2, none⟩ = some (.int .i64 kt) ∧ X.cell? ⟨gk, ok + x * 2 + 1, none⟩ = some (.int .i64 kk) ∧ X.cell? ⟨nb, 1, none⟩ = some (.slice (some ⟨gv, oo, none⟩) n.vs.length q2) ∧ X.cell? ⟨gv, oo + x, none⟩ = some (.int .i64 kv)) from fun X hX => by
                  have hl := HM.out.wk.low.trans (hX.mono HM.out.wk.low.size)
                  have hn := HM.out.nbk.below hX HM.out.nbk.lt
                  exact ⟨(HOV.out.1.below hX HOV.out.1.lt).cell 2, hn.cell 0, (hkc X hl).1, (hkc X hl).2, hn.cell 1, hvc X hl⟩)
                clear hkc hvc hky hkv hvl
                go_upto_region 13 with fail
                clear b4 n0c
                refine (wpIn_wide (n := 0)).1 ?_
                refine anyS_region (S := (fun X => X.cell? ⟨b, 2, none⟩ = some ov ∧ X.cell? ⟨nb, 0, none⟩ = some (.slice (some ⟨gk, ok, none⟩) n.ks.length q1) ∧ X.cell? ⟨gk, ok + x * 2, none⟩ = some (.int .i64 kt) ∧ X.cell? ⟨gk, ok + x * 2 + 1, none⟩ = some (.int .i64 kk) ∧ X.cell? ⟨nb, 1, none⟩ = some (.slice (some ⟨gv, oo, none⟩) n.vs.length q2) ∧ X.cell? ⟨gv, oo + x, none⟩ = some (.int .i64 kv))) 17 (by kernel_rfl) ?_ (fun hHeld => ?_)
                · exact HS13.out _ ((Below.refl _ _).drew)
                refine anyS_takeW (i := 0) (v := ?_) (by (simp only [List.getElem?_toArray, List.getElem?_cons_zero]); exact rfl) (by kernel_rfl) (by kernel_rfl) (by kernel_rfl) (by decide) (by intro _ _ _ h; exact h) ⟨Or.inl ⟨by rfl, ?_⟩, fun _ => rfl⟩ (by assumption) ?_
                rotate_left
                · (intro w; go_simp; (try with_reducible rfl))
                try simp only [Act.put, List.setIfInBounds_toArray, List.set_cons_zero, List.set_cons_succ]
                refine anyS_takeW (i := 1) (v := ?_) (by (simp only [List.getElem?_toArray, List.getElem?_cons_zero, List.getElem?_cons_succ]); exact rfl) (by kernel_rfl) (by kernel_rfl) (by kernel_rfl) (by decide) (by intro _ _ _ h; exact h) ⟨Or.inl ⟨by rfl, ?_⟩, fun _ => rfl⟩ (by assumption) ?_
                rotate_left
                · (intro w; go_simp; (try with_reducible rfl))
                try simp only [Act.put, List.setIfInBounds_toArray, List.set_cons_zero, List.set_cons_succ]
                refine anyS_takeW (i := 2) (v := ?_) (by (simp only [List.getElem?_toArray, List.getElem?_cons_zero, List.getElem?_cons_succ]); exact rfl) (by kernel_rfl) (by kernel_rfl) (by kernel_rfl) (by decide) (by intro _ _ _ h; exact h) ⟨Or.inl ⟨by rfl, ?_⟩, fun _ => rfl⟩ (by assumption) ?_
                rotate_left
                · (intro w; go_simp; (try with_reducible rfl))
                try simp only [Act.put, List.setIfInBounds_toArray, List.set_cons_zero, List.set_cons_succ]
                refine anyS_takeW (i := 3) (v := ?_) (by (simp only [List.getElem?_toArray, List.getElem?_cons_zero, List.getElem?_cons_succ]); exact rfl) (by kernel_rfl) (by kernel_rfl) (by kernel_rfl) (by decide) (by intro _ _ _ h; exact h) ⟨Or.inl ⟨by rfl, ?_⟩, fun _ => rfl⟩ (by assumption) ?_
                rotate_left
                · (intro w; go_simp; (try with_reducible rfl))
                try simp only [Act.put, List.setIfInBounds_toArray, List.set_cons_zero, List.set_cons_succ]
                refine anyS_take (i := 4) (v := ?_) (by (simp only [List.getElem?_toArray, List.getElem?_cons_zero, List.getElem?_cons_succ]); exact rfl) (by kernel_rfl) (by kernel_rfl) (by kernel_rfl) (by kernel_rfl) (by decide) (by intro _ _ _ h; exact h) (Or.inl ⟨by rfl, ?_⟩) (by assumption) ?_
                rotate_left
                · (intro w hSw; (try dsimp only at hSw); go_simp; (try with_reducible rfl))
                try simp only [Act.put, List.setIfInBounds_toArray, List.set_cons_zero, List.set_cons_succ]
                refine anyS_takeW (i := 5) (v := ?_) (by (simp only [List.getElem?_toArray, List.getElem?_cons_zero, List.getElem?_cons_succ]); exact rfl) (by kernel_rfl) (by kernel_rfl) (by kernel_rfl) (by decide) (by intro _ _ _ h; exact h) ⟨Or.inl ⟨by rfl, ?_⟩, fun _ => rfl⟩ (by assumption) ?_
                rotate_left
                · (intro w; go_simp; (try with_reducible rfl))
                try simp only [Act.put, List.setIfInBounds_toArray, List.set_cons_zero, List.set_cons_succ]
                refine anyS_take (i := 6) (v := ?_) (by (simp only [List.getElem?_toArray, List.getElem?_cons_zero, List.getElem?_cons_succ]); exact rfl) (by kernel_rfl) (by kernel_rfl) (by kernel_rfl) (by kernel_rfl) (by decide) (by intro _ _ _ h; exact h) (Or.inl ⟨by rfl, ?_⟩) (by assumption) ?_
                rotate_left
                · (intro w hSw; (try dsimp only at hSw); go_simp; (try with_reducible rfl))
                try simp only [Act.put, List.setIfInBounds_toArray, List.set_cons_zero, List.set_cons_succ]
                refine anyS_takeW (i := 7) (v := ?_) (by (simp only [List.getElem?_toArray, List.getElem?_cons_zero, List.getElem?_cons_succ]); exact rfl) (by kernel_rfl) (by kernel_rfl) (by kernel_rfl) (by decide) (by intro _ _ _ h; exact h) ⟨Or.inl ⟨by rfl, ?_⟩, fun _ => rfl⟩ (by assumption) ?_
                rotate_left
                · (intro w; go_simp; (try with_reducible rfl))
                try simp only [Act.put, List.setIfInBounds_toArray, List.set_cons_zero, List.set_cons_succ]
                refine anyS_takeW (i := 8) (v := ?_) (by (simp only [List.getElem?_toArray, List.getElem?_cons_zero, List.getElem?_cons_succ]); exact rfl) (by kernel_rfl) (by kernel_rfl) (by kernel_rfl) (by decide) (by intro _ _ _ h; exact h) ⟨Or.inl ⟨by rfl, ?_⟩, fun _ => rfl⟩ (by assumption) ?_
                rotate_left
                · (intro w; go_simp; (try with_reducible rfl))
                try simp only [Act.put, List.setIfInBounds_toArray, List.set_cons_zero, List.set_cons_succ]
                refine anyS_take (i := 9) (v := ?_) (by (simp only [List.getElem?_toArray, List.getElem?_cons_zero, List.getElem?_cons_succ]); exact rfl) (by kernel_rfl) (by kernel_rfl) (by kernel_rfl) (by kernel_rfl) (by decide) (by intro _ _ _ h; exact h) (Or.inl ⟨by rfl, ?_⟩) (by assumption) ?_
                rotate_left
                · (intro w hSw; (try dsimp only at hSw); go_simp; (try with_reducible rfl))
                try simp only [Act.put, List.setIfInBounds_toArray, List.set_cons_zero, List.set_cons_succ]
                refine anyS_takeW (i := 10) (v := ?_) (by (simp only [List.getElem?_toArray, List.getElem?_cons_zero, List.getElem?_cons_succ]); exact rfl) (by kernel_rfl) (by kernel_rfl) (by kernel_rfl) (by decide) (by intro _ _ _ h; exact h) ⟨Or.inl ⟨by rfl, ?_⟩, fun _ => rfl⟩ (by assumption) ?_
                rotate_left
                · (intro w; go_simp; (try with_reducible rfl))
                try simp only [Act.put, List.setIfInBounds_toArray, List.set_cons_zero, List.set_cons_succ]
                refine anyS_take (i := 11) (v := ?_) (by (simp only [List.getElem?_toArray, List.getElem?_cons_zero, List.getElem?_cons_succ]); exact rfl) (by kernel_rfl) (by kernel_rfl) (by kernel_rfl) (by kernel_rfl) (by decide) (by intro _ _ _ h; exact h) (Or.inl ⟨by rfl, ?_⟩) (by assumption) ?_
                rotate_left
                · (intro w hSw; (try dsimp only at hSw); go_simp; (try with_reducible rfl))
                try simp only [Act.put, List.setIfInBounds_toArray, List.set_cons_zero, List.set_cons_succ]
                refine anyS_takeW (i := 12) (v := ?_) (by (simp only [List.getElem?_toArray, List.getElem?_cons_zero, List.getElem?_cons_succ]); exact rfl) (by kernel_rfl) (by kernel_rfl) (by kernel_rfl) (by decide) (by intro _ _ _ h; exact h) ⟨Or.inl ⟨by rfl, ?_⟩, fun _ => rfl⟩ (by assumption) ?_
                rotate_left
                · (intro w; go_simp; (try with_reducible rfl))
                try simp only [Act.put, List.setIfInBounds_toArray, List.set_cons_zero, List.set_cons_succ]
                refine anyS_takeW (i := 13) (v := ?_) (by (simp only [List.getElem?_toArray, List.getElem?_cons_zero, List.getElem?_cons_succ]); exact rfl) (by kernel_rfl) (by kernel_rfl) (by kernel_rfl) (by decide) (by intro _ _ _ h; exact h) ⟨Or.inl ⟨by rfl, ?_⟩, fun _ => rfl⟩ (by assumption) ?_
                rotate_left
                · (intro w; go_simp; (try with_reducible rfl))
                try simp only [Act.put, List.setIfInBounds_toArray, List.set_cons_zero, List.set_cons_succ]
                refine anyS_take (i := 14) (v := ?_) (by (simp only [List.getElem?_toArray, List.getElem?_cons_zero, List.getElem?_cons_succ]); exact rfl) (by kernel_rfl) (by kernel_rfl) (by kernel_rfl) (by kernel_rfl) (by decide) (by intro _ _ _ h; exact h) (Or.inl ⟨by rfl, ?_⟩) (by assumption) ?_
                rotate_left
                · (intro w hSw; (try dsimp only at hSw); go_simp; (try with_reducible rfl))
                try simp only [Act.put, List.setIfInBounds_toArray, List.set_cons_zero, List.set_cons_succ]
                refine anyS_takeW (i := 15) (v := ?_) (by (simp only [List.getElem?_toArray, List.getElem?_cons_zero, List.getElem?_cons_succ]); exact rfl) (by kernel_rfl) (by kernel_rfl) (by kernel_rfl) (by decide) (by intro _ _ _ h; exact h) ⟨Or.inl ⟨by rfl, ?_⟩, fun _ => rfl⟩ (by assumption) ?_
                rotate_left
                · (intro w; go_simp; (try with_reducible rfl))
                try simp only [Act.put, List.setIfInBounds_toArray, List.set_cons_zero, List.set_cons_succ]
                refine anyS_only (i := 16) (by kernel_rfl) (by decide) (by (simp only [List.getElem?_toArray, List.getElem?_cons_zero, List.getElem?_cons_succ]); exact rfl) (by rfl) (fun K hK => ?_)
                go_simp
                refine hK.out _ _ ?_ (fun hHeld => ?_)
                · exact HS13.out _ (((Below.refl _ _).drew).alloc (by simp) _)
                clear hK K
                try simp only [Act.put, List.setIfInBounds_toArray, List.set_cons_zero, List.set_cons_succ]
                refine anyS_exit (e := 17) (by kernel_rfl) (by (simp only [List.getElem?_toArray, List.getElem?_cons_zero, List.getElem?_cons_succ]); exact rfl) (by rfl) (fun K hK => ?_)
                have hbd : Below wm.heap.size wm wm.drew := (Below.refl _ _).drew
                have hbx := HOV.out.1.below hbd HOV.out.1.lt
                obtain ⟨v', w6, r1, ho6, hg6⟩ := app_own2 (HOV.out.2.on hbd) (Nat.le_trans HM.out.wk.low.size hbd.size) (HM.out.size HRM.out.symm (by omega) (show S.out.length + 31 * (unseen snw + 1) ≤ 1000000 by have h1 := HNUM.out.2.1; have h2 := HUN.out; omega)) (⟨kt, kk⟩, kv)
                obtain ⟨g6, c6, rfl, _⟩ := World.ownsRow.form ho6 (by simp)
                obtain ⟨k1, k2, k3⟩ := (HM.out.wk.on hbd).appended hbx (HOV.out.2.on hbd) hg6 ho6
                refine wpIn_append_run (.tmp 132) (.tmp 144) 31 rfl rfl rfl r1 ?_
                have htk := HM.out.take hl2 HRM.out.symm hbd k3 (by rw [HENT.out]; exact k2)
                rw [show (Sm.out ++ [((⟨kt, kk⟩ : Ky), kv)]).length = Sm.out.length + 1 by simp] at htk
                have HTK := Lib.hid htk
                have cz := k1.cell 2
                have fz := k1.frozen 2
                clear hbd hbx ho6 hg6 r1 k1 k2 k3 hHeld htk
                refine hK.out _ _ ?_
                clear hK K
                try simp only [Act.put, List.setIfInBounds_toArray, List.set_cons_zero, List.set_cons_succ]
                refine wpAnyIn_take (i := 18) (v := ?_) rfl (by (simp only [List.getElem?_toArray, List.getElem?_cons_zero, List.getElem?_cons_succ]); exact rfl) (by kernel_rfl) (by kernel_rfl) (by kernel_rfl) (by intro _ _ _ h; exact h) ⟨Or.inl ⟨by rfl, ?_⟩, fun _ => rfl⟩ ?_
                rotate_left
                · (intro w; go_simp; (try with_reducible rfl))
                try simp only [Act.put, List.setIfInBounds_toArray, List.set_cons_zero, List.set_cons_succ]
                refine wpAnyIn_take (i := 19) (v := ?_) rfl (by (simp only [List.getElem?_toArray, List.getElem?_cons_zero, List.getElem?_cons_succ]); exact rfl) (by kernel_rfl) (by kernel_rfl) (by kernel_rfl) (by intro _ _ _ h; exact h) ⟨Or.inl ⟨by rfl, ?_⟩, fun _ => rfl⟩ ?_
                rotate_left
                · (intro w; go_simp; (try with_reducible rfl))
                try simp only [Act.put, List.setIfInBounds_toArray, List.set_cons_zero, List.set_cons_succ]
                refine in_only (i := 20) (by kernel_rfl) (by (simp only [List.getElem?_toArray, List.getElem?_cons_zero, List.getElem?_cons_succ]); exact rfl) (by rfl) (fun K hK => ?_)
                go_simp
                refine hK.out _ _ ?_
                clear hK K
                try simp only [Act.put, List.setIfInBounds_toArray, List.set_cons_zero, List.set_cons_succ]
                refine wpAnyIn_done (by kernel_rfl) ?_ _
                go_wp2_with fail
                go_roundg (n.ks.length + 1 - (x + 1))
                case measure => omega
                case rel => exact ⟨x + 1, _, by omega, rfl, by go_num, HTK.out⟩
            · have hli : ¬ (x : Int) < (n.ks.length : Int) := by omega
              have HLA := Lib.hid (HM.out.last hl2)
              go_wp2_with fail
              go_roundg (n.ks.length + 1 - (x + 1))
              case measure => omega
              case rel => exact ⟨x + 1, Sm, by omega, rfl, by go_num, HLA.out⟩
        · have hki : ¬ (x : Int) ≤ (n.ks.length : Int) := by omega
          obtain rfl : x = n.ks.length + 1 := by omega
          go_wp2_with fail
          go_end0
          rw [← HFULL.out]
          exact HL.out.done (.inr rfl)
    · -- none
      have hnone : vis nds d (f + 1) at_ deep S.seen S.deep = none := by
        have h := HBAD.out
        rw [eq_comm, Bool.or_eq_true, decide_eq_true_eq] at h
        by_cases ho : at_ < 0 ∨ (nds.length : Int) ≤ at_
        · exact vis_out ho
        · have h := h.resolve_left ho
          obtain ⟨a, rfl⟩ : ∃ a : Nat, at_ = (a : Int) := ⟨at_.toNat, by omega⟩
          rw [Int.toNat_natCast, Bool.or_eq_true] at h
          rcases h with h | h
          · exact vis_twice h
          · exact vis_wrong (by simpa using h)
      obtain ⟨ov, hbk, _⟩ := hinz.wk.blk
      have c4 := hbk.cell 4
      have f4 := hbk.frozen 4
      obtain ⟨k1, k2⟩ := hinz.wk.setRight false
      have HZ := Lib.hid (And.intro (show WkIn w0 b sb (.slice A nds.length c) nds { S with right := false } (wz.setCell ⟨b, 4, none⟩ (.bool false)) from ⟨k1, hinz.low.setCell hinz.b1 _, hinz.b1, hinz.b2, hinz.seen⟩) (And.intro ((Below.keepW HBZ.out).trans k2) hnone))
      have HR := Lib.hid (show wz.cell? ⟨b, 4, none⟩ = some (.bool S.right) from c4)
      clear hinz hbk k1 k2 hnone
      go_wp2_with fail
      go_end0
      exact ⟨rfl, HZ.out.2.1, _, HZ.out.1, .inr ⟨HZ.out.2.2, rfl⟩⟩
end Go.Proofs.Ytmmikolcipcldaa
