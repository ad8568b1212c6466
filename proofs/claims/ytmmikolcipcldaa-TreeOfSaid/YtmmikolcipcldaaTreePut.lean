/-
  What is proved here: a key is put into a tree (the tree's Put). Conditions: each theorem's own.
-/
import Derived.Test.YtmmikolcipcldaaTreeHold
import Derived.Test.YtmmikolcipcldaaFHeld
import Derived.TacticsInMore
namespace Go.Proofs.Ytmmikolcipcldaa
open Go.RowKit Go.Deep

set_option maxRecDepth 100000 in
set_option maxHeartbeats 4000000 in
theorem put_any {B : Nat} {w : World} {M : Nat → Option Pg} {tr d : Nat} {es : List En} (k : Ky) (v : Int) (hd2 : 2 ≤ d) (hd : d ≤ 16) (hT : Tree B w M tr d es) (hlen : es.length ≤ 1000000) :
    Calls Try.prog 32 #[.pointer (some ⟨tr, 0, none⟩), .agg k.cells, .int .i64 v] w fun e w' => e = .returned (.bool (!hasE k es)) ∧ ∃ M', Tree B w' M' tr d (insE k v es) ∧ Fr [tr] M w M' w' := by
  obtain ⟨kt, kk⟩ := k
  obtain ⟨hth, hsz, hown, hup, root, hat, hroot⟩ := hT
  have hb1 : Below w.heap.size w (w.alloc (.cells #[.int .i64 kt, .int .i64 kk] 24)) := (Below.refl _ _).alloc (Nat.le_refl _) _
  have HK := Lib.hid (show Keep B M tr d root es.length w.heap.size ⟨kt, kk⟩ (w.alloc (.cells #[.int .i64 kt, .int .i64 kk] 24)) from
    ⟨hth.on hb1, Nat.le_trans hsz hb1.size, hown, Blk.below hat hb1 (Blk.lt hat), Blk.new _ _ _, fun h => absurd (hth.own_lt h) (by omega), by have := Blk.lt hat; omega⟩)
  have HFR := Lib.hid (Fr.of_below (L := [tr]) (M := M) hb1)
  have t0 := HK.out.tree.cell 0
  clear hth hat hb1
  show Calls Try.prog 32 #[.pointer (some ⟨tr, 0, none⟩), .agg #[.int .i64 kt, .int .i64 kk], .int .i64 v] w _
  have hw1 : IntKind.i64.wrap (2 * (d : Int)) = 2 * (d : Int) := IntWalk.i64_in _ (by omega)
  have hw2 : IntKind.i64.wrap (2 * (d : Int) - 1) = 2 * (d : Int) - 1 := IntWalk.i64_in _ (by omega)
  have HHR := Lib.hid hroot
  clear hroot
  have HUP := Lib.hid hup
  have HSZ := Lib.hid (And.intro hsz hown)
  clear hup hsz hown
  go_enter Try.func32, Try.ntmps32
  go_upto_region 1 with fail
  go_cut [7] (fun s wx => s = .int .i64 (2 * (d : Int) - 1) ∧ Keep B M tr d root es.length w.heap.size ⟨kt, kk⟩ wx ∧ Fr [tr] M w M wx)
  case first =>
    go_wp2_with fail
    go_meet
    exact ⟨rfl, HK.out, HFR.out⟩
  clear t0 HK HFR hw1 hw2
  obtain ⟨rfl, hK, hF⟩ := hcut
  obtain ⟨wx, rfl⟩ : ∃ wq : World, wq = wc := ⟨_, rfl⟩
  have HK := Lib.hid hK
  have HF := Lib.hid hF
  have t1 := hK.tree.cell 1
  have t1f := hK.tree.frozen 1
  clear hK hF
  go_upto_if 21 with fail
  go_cut [] (fun wy => ∃ p M1 H lo FS, Keep B M1 tr d (some p) es.length w.heap.size ⟨kt, kk⟩ wy ∧ Fr [tr] M w M1 wy ∧ Tr d M1 H lo p es FS ∧ FS.Nodup ∧ (1 ≤ lo ∨ H = 0))
  case first =>
    --<
    rcases HHR.out with ⟨rfl, rfl⟩ | ⟨p, H, FS, rfl, hTr, hN⟩
    · have t2 := (Blk.alloc HK.out.tree (.cells #[.slice none 0 0, .slice none 0 0, .slice none 0 0] 82)).cell 1
      have t2f := (Blk.alloc HK.out.tree (.cells #[.slice none 0 0, .slice none 0 0, .slice none 0 0] 82)).frozen 1
      go_wp2_with fail
      go_meet
      obtain ⟨hk1, hn1⟩ := HK.out.make (p := wx.heap.size) (P := P00) (W' := wx.alloc (.cells #[.slice none 0 0, .slice none 0 0, .slice none 0 0] 82)) ((Below.refl _ _).alloc (Nat.le_refl _) _) (Nat.le_refl _) (page_zero wx) (fun h => absurd h (by simp [P00])) (fun h => absurd h (by simp [P00])) (fun h => absurd h (by simp [P00]))
      refine ⟨wx.heap.size, upd M wx.heap.size P00, 0, 0, [wx.heap.size], hk1.root rfl, HF.out.trans ((Fr.make ((Below.refl _ _).alloc (Nat.le_refl _) _) (Nat.le_refl _) (fun h => absurd h (by simp [P00])) (fun h => absurd h (by simp [P00])) (fun h => absurd h (by simp [P00]))).trans (Fr.of_touch (Touch.set _ ⟨tr, 1, none⟩ _ _ (by simp)))), ⟨P00, upd_same _ _ _, rfl, Nat.zero_le _, Nat.zero_le _, rfl, rfl, rfl⟩, by simp, .inr rfl⟩
    · go_wp2_with fail
      go_meet
      exact ⟨p, M, H, 1, FS, HK.out, HF.out, hTr, hN, .inl (Nat.le_refl _)⟩
    -->
  obtain ⟨p, M1, H, lo, FS, hK, hF, hTr, hN, hlo⟩ := hcut
  clear HK HF t1 t1f HHR
  obtain ⟨wy, rfl⟩ : ∃ wq : World, wq = wc := ⟨_, rfl⟩
  obtain ⟨Q, c, f, hNd⟩ := hTr.node
  obtain ⟨A, hA, _, _⟩ := sl_form Q.gk Q.ks.length Q.ck (hK.th.page hNd.at_).keys.1
  have q0 : wy.cell? ⟨p, 0, none⟩ = some (.slice A Q.ks.length Q.ck) := by rw [(hK.th.page hNd.at_).blk.cell 0]; exact congrArg some hA
  have t1 := hK.tree.cell 1
  have t1f := hK.tree.frozen 1
  have HK := Lib.hid hK
  have HF := Lib.hid hF
  have HN := Lib.hid (And.intro hTr (And.intro hN hlo))
  have HQ := Lib.hid (And.intro hNd.at_ (And.intro hNd.vs (And.intro hNd.hi (show Q.kids = [] ∨ Q.kids.length = Q.ks.length + 1 from by
    rcases hNd.kids with ⟨_, h, _⟩ | ⟨_, _, h, _⟩
    · exact .inl h
    · exact .inr h))))
  clear hK hF hTr hN hlo hNd hA
  go_upto_if 36 with fail
  go_cut [] (fun wz => ∃ q M2 Q2 h, Step B wz M2 d q ⟨kt, kk⟩ es q h Q2 M2 wz ∧ Keep B M2 tr d (some q) es.length w.heap.size ⟨kt, kk⟩ wz ∧ Fr [tr] M w M2 wz)
  case first =>
    --<
    by_cases hfull : Q.ks.length = 2 * d - 1
    · have hfd : ((Q.ks.length : Int) == 2 * (d : Int) - 1) = true := beq_iff_eq.2 (by omega)
      have HFULL := Lib.hid hfull
      clear hfull
      clear q0
      have hbn : Below wy.heap.size wy ((wy.alloc (.cells #[.pointer (some ⟨p, 0, none⟩)] 69)).alloc (.cells #[.slice none 0 0, .slice none 0 0, .slice (some ⟨wy.heap.size, 0, none⟩) 1 1] 82)) := by (repeat (first | (with_reducible assumption) | (with_reducible exact Below.refl _ _) | ((with_reducible refine Below.setCell ?_ ?_ _); rotate_left; · (first | omega | (simp; done) | (simp; omega) | (simp at *; omega))) | ((with_reducible refine Below.alloc ?_ ?_ _); rotate_left; · (first | omega | (simp; done) | (simp; omega) | (simp at *; omega))) | (with_reducible refine Below.drew ?_) | (with_reducible refine below_drewN ?_ _) | ((refine Below.trans ?_ (Below.mono (by with_reducible assumption) ?_)); rotate_left; · (first | omega | (simp; done) | (simp; omega) | (simp at *; omega)))))
      have hk0 := HK.out.make (p := wy.heap.size + 1) (P := P01 p wy.heap.size) hbn (by omega) (page_root wy p) (fun h => absurd h (by simp [P01])) (fun h => absurd h (by simp [P01])) (fun _ => Nat.le_refl _)
      have t2 := hk0.1.tree.cell 1
      have t2f := hk0.1.tree.frozen 1
      have HKN := Lib.hid hk0
      have HFN := Lib.hid ((HF.out.trans (Fr.make hbn (show wy.heap.size ≤ wy.heap.size + 1 by omega) (X := P01 p wy.heap.size) (fun h => absurd h (by simp [P01])) (fun h => absurd h (by simp [P01])) (fun _ => Nat.le_refl _))))
      clear hk0 hbn
      go_upto_region 6 with fail
      obtain ⟨q, hqe⟩ : ∃ q, q = wy.heap.size + 1 := ⟨_, rfl⟩
      obtain ⟨b, hbe⟩ : ∃ b, b = wy.heap.size := ⟨_, rfl⟩
      have hK := HKN.out.1.root (root' := some (wy.heap.size + 1)) rfl
      have hF := HFN.out.trans (Fr.of_touch (Touch.set _ ⟨tr, 1, none⟩ (.pointer (some ⟨wy.heap.size + 1, 0, none⟩)) [tr] (by simp)))
      have hq := HKN.out.2
      obtain ⟨wz, hwz⟩ : ∃ wq : World, wq = ((wy.alloc (.cells #[.pointer (some ⟨p, 0, none⟩)] 69)).alloc (.cells #[.slice none 0 0, .slice none 0 0, .slice (some ⟨wy.heap.size, 0, none⟩) 1 1] 82)).setCell ⟨tr, 1, none⟩ (.pointer (some ⟨wy.heap.size + 1, 0, none⟩)) := ⟨_, rfl⟩
      rw [← hwz]
      simp only [Option.map] at hK
      rw [← hwz] at hK hF
      rw [← hqe, ← hbe] at hK hF
      rw [← hqe] at hq
      clear HKN HFN t1 t1f t2 t2f hwz hqe hbe
      have z0 := hK.tree.cell 0
      have z1 := hK.tree.cell 1
      have hpq : p ≠ q := fun e => by have := HQ.out.1; rw [e, hq] at this; cases this
      have HSP := Lib.hid (split_any (w := wz.drew) (M := upd M1 q (P01 p b)) (p := q) (i := 0) (lp := p) (d := d) (P := P01 p b) (L := Q) (hK.th.on (Below.refl _ _).drew) hK.size (upd_same _ _ _) (by rw [upd_other _ _ hpq]; exact HQ.out.1) hpq (Nat.zero_le _) rfl rfl rfl (Nat.zero_le _) HFULL.out HQ.out.2.1 (by have := HFULL.out; rcases HQ.out.2.2.2 with h | h; exact .inl h; exact .inr (by omega)) hd2 hd)
      have HK2 := Lib.hid (And.intro hK (And.intro hF hq))
      have HPQ := Lib.hid hpq
      clear hK hF hq hpq
      refine (wpIn_wide (n := 0)).1 ?_
      refine anyS_region (S := (fun W => W.cell? ⟨tr, 0, none⟩ = some (.int .i64 d) ∧ W.cell? ⟨tr, 1, none⟩ = some (.pointer (some ⟨q, 0, none⟩)) ∧ W = wz.drew)) 8 (by kernel_rfl) ?_ (fun hHeld => ?_)
      · exact ⟨z0, z1, rfl⟩
      refine anyS_takeW (i := 0) (v := ?_) (by (simp only [List.getElem?_toArray, List.getElem?_cons_zero]); exact rfl) (by kernel_rfl) (by kernel_rfl) (by kernel_rfl) (by decide) (by intro _ _ _ h; exact h) ⟨Or.inl ⟨by rfl, ?_⟩, fun _ => rfl⟩ (by assumption) ?_
      rotate_left
      · (intro w; go_simp; (try with_reducible rfl))
      try simp only [Act.put, List.setIfInBounds_toArray, List.set_cons_zero, List.set_cons_succ]
      refine anyS_takeW (i := 1) (v := ?_) (by (simp only [List.getElem?_toArray, List.getElem?_cons_zero, List.getElem?_cons_succ]); exact rfl) (by kernel_rfl) (by kernel_rfl) (by kernel_rfl) (by decide) (by intro _ _ _ h; exact h) ⟨Or.inl ⟨by rfl, ?_⟩, fun _ => rfl⟩ (by assumption) ?_
      rotate_left
      · (intro w; go_simp; (try with_reducible rfl))
      try simp only [Act.put, List.setIfInBounds_toArray, List.set_cons_zero, List.set_cons_succ]
      refine anyS_takeW (i := 2) (v := ?_) (by (simp only [List.getElem?_toArray, List.getElem?_cons_zero, List.getElem?_cons_succ]); exact rfl) (by kernel_rfl) (by kernel_rfl) (by kernel_rfl) (by decide) (by intro _ _ _ h; exact h) ⟨Or.inl ⟨by rfl, ?_⟩, fun _ => rfl⟩ (by assumption) ?_
      rotate_left
      · (intro w; go_simp; (try with_reducible rfl))
      try simp only [Act.put, List.setIfInBounds_toArray, List.set_cons_zero, List.set_cons_succ]
      refine anyS_takeW (i := 4) (v := ?_) (by (simp only [List.getElem?_toArray, List.getElem?_cons_zero, List.getElem?_cons_succ]); exact rfl) (by kernel_rfl) (by kernel_rfl) (by kernel_rfl) (by decide) (by intro _ _ _ h; exact h) ⟨Or.inl ⟨by rfl, ?_⟩, fun _ => rfl⟩ (by assumption) ?_
      rotate_left
      · (intro w; go_simp; (try with_reducible rfl))
      try simp only [Act.put, List.setIfInBounds_toArray, List.set_cons_zero, List.set_cons_succ]
      refine anyS_takeW (i := 5) (v := ?_) (by (simp only [List.getElem?_toArray, List.getElem?_cons_zero, List.getElem?_cons_succ]); exact rfl) (by kernel_rfl) (by kernel_rfl) (by kernel_rfl) (by decide) (by intro _ _ _ h; exact h) ⟨Or.inl ⟨by rfl, ?_⟩, fun _ => rfl⟩ (by assumption) ?_
      rotate_left
      · (intro w; go_simp; (try with_reducible rfl))
      try simp only [Act.put, List.setIfInBounds_toArray, List.set_cons_zero, List.set_cons_succ]
      refine anyS_takeW (i := 6) (v := ?_) (by (simp only [List.getElem?_toArray, List.getElem?_cons_zero, List.getElem?_cons_succ]); exact rfl) (by kernel_rfl) (by kernel_rfl) (by kernel_rfl) (by decide) (by intro _ _ _ h; exact h) ⟨Or.inl ⟨by rfl, ?_⟩, fun _ => rfl⟩ (by assumption) ?_
      rotate_left
      · (intro w; go_simp; (try with_reducible rfl))
      try simp only [Act.put, List.setIfInBounds_toArray, List.set_cons_zero, List.set_cons_succ]
      refine anyS_take (i := 3) (v := ?_) (by (simp only [List.getElem?_toArray, List.getElem?_cons_zero, List.getElem?_cons_succ]); exact rfl) (by kernel_rfl) (by kernel_rfl) (by kernel_rfl) (by kernel_rfl) (by decide) (by intro _ _ _ h; exact h) (Or.inl ⟨by rfl, ?_⟩) (by assumption) ?_
      rotate_left
      · (intro w hSw; (try dsimp only at hSw); go_simp; (try with_reducible rfl))
      try simp only [Act.put, List.setIfInBounds_toArray, List.set_cons_zero, List.set_cons_succ]
      refine anyS_take (i := 7) (v := ?_) (by (simp only [List.getElem?_toArray, List.getElem?_cons_zero, List.getElem?_cons_succ]); exact rfl) (by kernel_rfl) (by kernel_rfl) (by kernel_rfl) (by kernel_rfl) (by decide) (by intro _ _ _ h; exact h) (Or.inl ⟨by rfl, ?_⟩) (by assumption) ?_
      rotate_left
      · (intro w hSw; (try dsimp only at hSw); go_simp; (try with_reducible rfl))
      try simp only [Act.put, List.setIfInBounds_toArray, List.set_cons_zero, List.set_cons_succ]
      refine anyS_exit (e := 8) (by kernel_rfl) (by (simp only [List.getElem?_toArray, List.getElem?_cons_zero, List.getElem?_cons_succ]); exact rfl) (by rfl) (fun K hK => ?_)
      go_simp
      refine ⟨trivial, rfl, ?_⟩
      gi_at_call 46
      refine (callsIn_wide.2 HSP.out).mono ?_
      rintro e w1 ⟨rfl, rp, P', L', R', hr, n1, n2, hSt, hP, hL, hR⟩
      refine hK.out _ _ ?_
      clear hK K
      try simp only [Act.put, List.setIfInBounds_toArray, List.set_cons_zero, List.set_cons_succ]
      refine wpAnyIn_done (by kernel_rfl) ?_ _
      go_wp2_with fail
      go_meet
      obtain ⟨FS', hT2, hN2⟩ := HN.out.1.rooted HN.out.2.1 hd2 HQ.out.1 HFULL.out HK2.out.2.2 HPQ.out hr n1 n2 hP hL hR
      refine ⟨q, _, P', H + 1, Step.start hSt.th HUP.out hd2 hT2 hN2 (.inl (Nat.le_refl _)) N3.own (by rw [hP.1, insAt_len]; show 0 + 1 ≤ _; omega), (HK2.out.1).fr ((Fr.of_below (Below.refl _ _).drew).trans hSt.fr) hSt.th, HK2.out.2.1.trans ((Fr.of_below (Below.refl _ _).drew).trans (hSt.fr.mono (by simp)))⟩
    · have hfd : ((Q.ks.length : Int) == 2 * (d : Int) - 1) = false := beq_eq_false_iff_ne.2 (by omega)
      go_wp2_with fail
      go_meet
      exact ⟨p, M1, Q, H, Step.start HK.out.th HUP.out hd2 HN.out.1 HN.out.2.1 HN.out.2.2 HQ.out.1 (by have := HQ.out.2.2.1; omega), HK.out, HF.out⟩
    -->
  clear HK HF HN HQ q0 t1 t1f
  obtain ⟨q, M2, Q2, h, hS, hK, hF⟩ := hcut
  obtain ⟨wz, rfl⟩ : ∃ wq : World, wq = wc := ⟨_, rfl⟩
  have t1 := hK.tree.cell 1
  have HS := Lib.hid hS
  have HK := Lib.hid hK
  have HF := Lib.hid hF
  clear hS hK hF
  go_wp2_with fail
  go_loopg [8] (h * (2 * d) + (2 * d - 1 - Q2.ks.length)) (fun g s wr => ∃ p h Q Mx, g = h * (2 * d) + (2 * d - 1 - Q.ks.length) ∧ s = .pointer (some ⟨p, 0, none⟩) ∧ Step B wz M2 d q ⟨kt, kk⟩ es p h Q Mx wr)
  case atStart => exact ⟨q, h, Q2, M2, rfl, rfl, HS.out⟩
  case round =>
    clear HS t1
    obtain ⟨p, h, Q, Mx, rfl, rfl, hS⟩ := hrel
    have hK := HK.out.fr hS.fr hS.th
    have HPL := Lib.hid (place_any p Q ⟨kt, kk⟩ wr hS.page (by have := hS.hi; omega))
    have b0 : wr.cell? ⟨w.heap.size, 0, none⟩ = some (.int .i64 kt) := hK.key.cell 0
    have b1 : wr.cell? ⟨w.heap.size, 1, none⟩ = some (.int .i64 kk) := hK.key.cell 1
    have HS := Lib.hid hS
    clear hS hK
    go_upto_region 9 with (go_at_call 36; refine HPL.out.mono ?_; rintro e w1 ⟨rfl, hb1⟩)
    have hS := HS.out.on hb1
    clear HS HPL b0 b1 hb1
    obtain ⟨wd, rfl⟩ : ∃ wq : World, wq = w1 := ⟨_, rfl⟩
    have hKd := HK.out.fr hS.fr hS.th
    obtain ⟨i, hi⟩ : ∃ i, i = place Q.ks ⟨kt, kk⟩ := ⟨_, rfl⟩
    obtain ⟨b, hb⟩ : ∃ b, b = hit Q.ks ⟨kt, kk⟩ := ⟨_, rfl⟩
    rw [← hi, ← hb]
    have hin : i ≤ Q.ks.length := by rw [hi]; exact place_le _ _
    have HI := Lib.hid hi
    have HB := Lib.hid hb
    clear hi hb
    have hi0 : (0 : Int) ≤ (i : Int) := by omega
    cases b
    · have hkids := hS.kids
      obtain ⟨A2, hA2, hA2p, _⟩ := sl_form Q.gc Q.kids.length Q.cc hS.page.kids.1
      have q2 : wd.cell? ⟨p, 2, none⟩ = some (.slice A2 Q.kids.length Q.cc) := by rw [hS.page.blk.cell 2]; exact congrArg some hA2
      have HS := Lib.hid hS
      have HKD := Lib.hid hKd
      clear hS hKd
      rcases hkids with ⟨rfl, hkl⟩ | ⟨h', rfl, hkl⟩
      · have hkd : ((Q.kids.length : Int) == 0) = true := by rw [hkl]; rfl
        clear hkl
        go_upto_region 13 with fail
        obtain ⟨A0, hA0⟩ : ∃ v, v = sl Q.gk Q.ks.length Q.ck := ⟨_, rfl⟩
        obtain ⟨A1, hA1⟩ : ∃ v, v = sl Q.gv Q.vs.length Q.cv := ⟨_, rfl⟩
        have hP := HS.out.page
        have hBp : Blk wd p 82 #[A0, A1, sl Q.gc Q.kids.length Q.cc] := by rw [hA0, hA1]; exact hP.blk
        have hpn' : p ∉ Q.blocks := fun hm => by
          rw [Pg.mem_blocks] at hm
          rcases hm with ⟨hc, rfl⟩ | ⟨hc, rfl⟩ | ⟨hc, rfl⟩
          · exact hP.far.1 hc (by simp)
          · exact hP.far.2.1 hc (by simp)
          · exact hP.far.2.2 hc (by simp)
        have hkbn : w.heap.size ∉ Q.blocks := fun hm => HKD.out.free ⟨p, Q, HS.out.at_, List.mem_cons_of_mem _ hm⟩
        have hS13 : ∀ W, Touch wd W Q.blocks → (W.cell? ⟨p, 0, none⟩ = some A0 ∧ W.cell? ⟨p, 1, none⟩ = some A1 ∧ W.cell? ⟨w.heap.size, 0, none⟩ = some (.int .i64 kt) ∧ W.cell? ⟨w.heap.size, 1, none⟩ = some (.int .i64 kk) ∧ Touch wd W Q.blocks) := fun W k =>
          ⟨(hBp.touch k hpn').cell 0, (hBp.touch k hpn').cell 1, (HKD.out.key.touch k hkbn).cell 0, (HKD.out.key.touch k hkbn).cell 1, k⟩
        have HBP := Lib.hid (show ∀ W, Touch wd W Q.blocks → Blk W p 82 #[A0, A1, sl Q.gc Q.kids.length Q.cc] from fun W k => hBp.touch k hpn')
        have hQh := HS.out.hi
        have hQv := HS.out.vs
        have HC1 := Lib.hid (show ∀ W, RowAt W Q.gk 24 2 Q.ks.length Q.ck (kcells Q.ks) → Calls Try.prog 47 #[A0, .int .i64 i, .agg #[.int .i64 kt, .int .i64 kk]] W (PutAt W Q.gk Q.ck 24 2 (Q.ks.length + 1) (kcells (insAt Q.ks i ⟨kt, kk⟩))) from fun W h => by
          rw [hA0]; exact putK_any _ _ _ i ⟨kt, kk⟩ W h hin (by omega))
        have HC2 := Lib.hid (show ∀ W, RowAt W Q.gv 3 1 Q.vs.length Q.cv (vcells Q.vs) → Calls Try.prog 48 #[A1, .int .i64 i, .int .i64 v] W (PutAt W Q.gv Q.cv 3 1 (Q.vs.length + 1) (vcells (insAt Q.vs i v))) from fun W h => by
          rw [hA1]; exact putI_any _ _ _ i v W h (by omega) (by omega))
        have HP := Lib.hid hP
        have HKD2 := HKD
        have HS2 := HS
        clear HS
        have HS := Lib.hid hS13
        clear hA0 hA1 hP hBp hpn' hkbn hS13 hQh hQv q2 hA2 hkd
        refine (wpIn_wide (n := 0)).1 ?_
        refine anyS_region (S := (fun W => W.cell? ⟨p, 0, none⟩ = some A0 ∧ W.cell? ⟨p, 1, none⟩ = some A1 ∧ W.cell? ⟨w.heap.size, 0, none⟩ = some (.int .i64 kt) ∧ W.cell? ⟨w.heap.size, 1, none⟩ = some (.int .i64 kk) ∧ Touch wd W Q.blocks)) 18 (by kernel_rfl) ?_ (fun hHeld => ?_)
        · exact HS.out _ (Touch.drew _ _)
        refine anyS_takeW (i := 0) (v := ?_) (by (simp only [List.getElem?_toArray, List.getElem?_cons_zero]); exact rfl) (by kernel_rfl) (by kernel_rfl) (by kernel_rfl) (by decide) (by intro _ _ _ h; exact h) ⟨Or.inl ⟨by rfl, ?_⟩, fun _ => rfl⟩ (by assumption) ?_
        rotate_left
        · (intro w; go_simp; (try with_reducible rfl))
        try simp only [Act.put, List.setIfInBounds_toArray, List.set_cons_zero, List.set_cons_succ]
        refine anyS_takeW (i := 1) (v := ?_) (by (simp only [List.getElem?_toArray, List.getElem?_cons_zero, List.getElem?_cons_succ]); exact rfl) (by kernel_rfl) (by kernel_rfl) (by kernel_rfl) (by decide) (by intro _ _ _ h; exact h) ⟨Or.inl ⟨by rfl, ?_⟩, fun _ => rfl⟩ (by assumption) ?_
        rotate_left
        · (intro w; go_simp; (try with_reducible rfl))
        try simp only [Act.put, List.setIfInBounds_toArray, List.set_cons_zero, List.set_cons_succ]
        refine anyS_takeW (i := 2) (v := ?_) (by (simp only [List.getElem?_toArray, List.getElem?_cons_zero, List.getElem?_cons_succ]); exact rfl) (by kernel_rfl) (by kernel_rfl) (by kernel_rfl) (by decide) (by intro _ _ _ h; exact h) ⟨Or.inl ⟨by rfl, ?_⟩, fun _ => rfl⟩ (by assumption) ?_
        rotate_left
        · (intro w; go_simp; (try with_reducible rfl))
        try simp only [Act.put, List.setIfInBounds_toArray, List.set_cons_zero, List.set_cons_succ]
        refine anyS_takeW (i := 3) (v := ?_) (by (simp only [List.getElem?_toArray, List.getElem?_cons_zero, List.getElem?_cons_succ]); exact rfl) (by kernel_rfl) (by kernel_rfl) (by kernel_rfl) (by decide) (by intro _ _ _ h; exact h) ⟨Or.inl ⟨by rfl, ?_⟩, fun _ => rfl⟩ (by assumption) ?_
        rotate_left
        · (intro w; go_simp; (try with_reducible rfl))
        try simp only [Act.put, List.setIfInBounds_toArray, List.set_cons_zero, List.set_cons_succ]
        refine anyS_take (i := 4) (v := ?_) (by (simp only [List.getElem?_toArray, List.getElem?_cons_zero, List.getElem?_cons_succ]); exact rfl) (by kernel_rfl) (by kernel_rfl) (by kernel_rfl) (by kernel_rfl) (by decide) (by intro _ _ _ h; exact h) (Or.inl ⟨by rfl, ?_⟩) (by assumption) ?_
        rotate_left
        · (intro w hSw; (try dsimp only at hSw); go_simp; (try with_reducible rfl))
        try simp only [Act.put, List.setIfInBounds_toArray, List.set_cons_zero, List.set_cons_succ]
        refine anyS_take (i := 5) (v := ?_) (by (simp only [List.getElem?_toArray, List.getElem?_cons_zero, List.getElem?_cons_succ]); exact rfl) (by kernel_rfl) (by kernel_rfl) (by kernel_rfl) (by kernel_rfl) (by decide) (by intro _ _ _ h; exact h) (Or.inl ⟨by rfl, ?_⟩) (by assumption) ?_
        rotate_left
        · (intro w hSw; (try dsimp only at hSw); go_simp; (try with_reducible rfl))
        try simp only [Act.put, List.setIfInBounds_toArray, List.set_cons_zero, List.set_cons_succ]
        refine anyS_take (i := 6) (v := ?_) (by (simp only [List.getElem?_toArray, List.getElem?_cons_zero, List.getElem?_cons_succ]); exact rfl) (by kernel_rfl) (by kernel_rfl) (by kernel_rfl) (by kernel_rfl) (by decide) (by intro _ _ _ h; exact h) (Or.inl ⟨by rfl, ?_⟩) (by assumption) ?_
        rotate_left
        · (intro w hSw; (try dsimp only at hSw); go_simp; (try with_reducible rfl))
        try simp only [Act.put, List.setIfInBounds_toArray, List.set_cons_zero, List.set_cons_succ]
        refine anyS_take (i := 7) (v := ?_) (by (simp only [List.getElem?_toArray, List.getElem?_cons_zero, List.getElem?_cons_succ]); exact rfl) (by kernel_rfl) (by kernel_rfl) (by kernel_rfl) (by kernel_rfl) (by decide) (by intro _ _ _ h; exact h) (Or.inl ⟨by rfl, ?_⟩) (by assumption) ?_
        rotate_left
        · (intro w hSw; (try dsimp only at hSw); go_simp; (try with_reducible rfl))
        try simp only [Act.put, List.setIfInBounds_toArray, List.set_cons_zero, List.set_cons_succ]
        refine anyS_take (i := 9) (v := ?_) (by (simp only [List.getElem?_toArray, List.getElem?_cons_zero, List.getElem?_cons_succ]); exact rfl) (by kernel_rfl) (by kernel_rfl) (by kernel_rfl) (by kernel_rfl) (by decide) (by intro _ _ _ h; exact h) (Or.inl ⟨by rfl, ?_⟩) (by assumption) ?_
        rotate_left
        · (intro w hSw; (try dsimp only at hSw); go_simp; (try with_reducible rfl))
        try simp only [Act.put, List.setIfInBounds_toArray, List.set_cons_zero, List.set_cons_succ]
        refine anyS_take (i := 10) (v := ?_) (by (simp only [List.getElem?_toArray, List.getElem?_cons_zero, List.getElem?_cons_succ]); exact rfl) (by kernel_rfl) (by kernel_rfl) (by kernel_rfl) (by kernel_rfl) (by decide) (by intro _ _ _ h; exact h) (Or.inl ⟨by rfl, ?_⟩) (by assumption) ?_
        rotate_left
        · (intro w hSw; (try dsimp only at hSw); go_simp; (try with_reducible rfl))
        try simp only [Act.put, List.setIfInBounds_toArray, List.set_cons_zero, List.set_cons_succ]
        refine anyS_take (i := 11) (v := ?_) (by (simp only [List.getElem?_toArray, List.getElem?_cons_zero, List.getElem?_cons_succ]); exact rfl) (by kernel_rfl) (by kernel_rfl) (by kernel_rfl) (by kernel_rfl) (by decide) (by intro _ _ _ h; exact h) (Or.inl ⟨by rfl, ?_⟩) (by assumption) ?_
        rotate_left
        · (intro w hSw; (try dsimp only at hSw); go_simp; (try with_reducible rfl))
        try simp only [Act.put, List.setIfInBounds_toArray, List.set_cons_zero, List.set_cons_succ]
        refine anyS_take (i := 12) (v := ?_) (by (simp only [List.getElem?_toArray, List.getElem?_cons_zero, List.getElem?_cons_succ]); exact rfl) (by kernel_rfl) (by kernel_rfl) (by kernel_rfl) (by kernel_rfl) (by decide) (by intro _ _ _ h; exact h) (Or.inl ⟨by rfl, ?_⟩) (by assumption) ?_
        rotate_left
        · (intro w hSw; (try dsimp only at hSw); go_simp; (try with_reducible rfl))
        try simp only [Act.put, List.setIfInBounds_toArray, List.set_cons_zero, List.set_cons_succ]
        refine anyS_take (i := 13) (v := ?_) (by (simp only [List.getElem?_toArray, List.getElem?_cons_zero, List.getElem?_cons_succ]); exact rfl) (by kernel_rfl) (by kernel_rfl) (by kernel_rfl) (by kernel_rfl) (by decide) (by intro _ _ _ h; exact h) (Or.inl ⟨by rfl, ?_⟩) (by assumption) ?_
        rotate_left
        · (intro w hSw; (try dsimp only at hSw); go_simp; (try with_reducible rfl))
        try simp only [Act.put, List.setIfInBounds_toArray, List.set_cons_zero, List.set_cons_succ]
        refine anyS_take (i := 14) (v := ?_) (by (simp only [List.getElem?_toArray, List.getElem?_cons_zero, List.getElem?_cons_succ]); exact rfl) (by kernel_rfl) (by kernel_rfl) (by kernel_rfl) (by kernel_rfl) (by decide) (by intro _ _ _ h; exact h) (Or.inl ⟨by rfl, ?_⟩) (by assumption) ?_
        rotate_left
        · (intro w hSw; (try dsimp only at hSw); go_simp; (try with_reducible rfl))
        try simp only [Act.put, List.setIfInBounds_toArray, List.set_cons_zero, List.set_cons_succ]
        refine anyS_only (i := 8) (by kernel_rfl) (by decide) (by (simp only [List.getElem?_toArray, List.getElem?_cons_zero, List.getElem?_cons_succ]); exact rfl) (by rfl) (fun K hK => ?_)
        go_simp
        refine ⟨trivial, rfl, ?_⟩
        gi_at_call 47
        refine (callsIn_wide.2 (HC1.out wd.drew HP.out.keys)).mono ?_
        rintro e w1 ⟨g1, c1, rfl, h1⟩
        refine hK.out _ _ ?_ (fun hHeld => ?_)
        · exact HS.out _ ((Touch.drew _ _).trans (Touch.of_grown h1.2.2.1 _ (fun h => (Pg.mem_blocks _ _).2 (.inl ⟨h, rfl⟩))))
        clear hK K
        try simp only [Act.put, List.setIfInBounds_toArray, List.set_cons_zero, List.set_cons_succ]
        have H1 := Lib.hid (show (RowAt w1 g1 24 2 (Q.ks.length + 1) c1 (kcells (insAt Q.ks i ⟨kt, kk⟩)) ∧ 0 < c1 ∧ ((0 < Q.ck ∧ g1 = Q.gk) ∨ wd.heap.size ≤ g1)) ∧ RowAt w1 Q.gv 3 1 Q.vs.length Q.cv (vcells Q.vs) ∧ RowAt w1 Q.gc 69 1 Q.kids.length Q.cc (pcells Q.kids) ∧ Touch wd w1 Q.blocks from ⟨⟨h1.2.1, h1.1, h1.2.2.2⟩, RowAt.grown_far (w := wd.drew) HP.out.vals HP.out.keys (by decide) h1.2.2.1, RowAt.grown_far (w := wd.drew) HP.out.kids HP.out.keys (by decide) h1.2.2.1, hHeld.2.2.2.2⟩)
        clear h1
        refine anyS_only (i := 15) (by kernel_rfl) (by decide) (by (simp only [List.getElem?_toArray, List.getElem?_cons_zero, List.getElem?_cons_succ]); exact rfl) (by rfl) (fun K hK => ?_)
        go_simp
        refine ⟨trivial, rfl, ?_⟩
        gi_at_call 48
        refine (callsIn_wide.2 (HC2.out w1 H1.out.2.1)).mono ?_
        rintro e w2 ⟨g2, c2, rfl, h2⟩
        refine hK.out _ _ ?_ (fun hHeld => ?_)
        · exact HS.out _ (H1.out.2.2.2.trans (Touch.of_grown h2.2.2.1 _ (fun h => (Pg.mem_blocks _ _).2 (.inr (.inl ⟨h, rfl⟩)))))
        clear hK K
        try simp only [Act.put, List.setIfInBounds_toArray, List.set_cons_zero, List.set_cons_succ]
        have H2 := Lib.hid (show (RowAt w2 g1 24 2 (Q.ks.length + 1) c1 (kcells (insAt Q.ks i ⟨kt, kk⟩)) ∧ 0 < c1 ∧ ((0 < Q.ck ∧ g1 = Q.gk) ∨ wd.heap.size ≤ g1)) ∧ (RowAt w2 g2 3 1 (Q.vs.length + 1) c2 (vcells (insAt Q.vs i v)) ∧ 0 < c2 ∧ ((0 < Q.cv ∧ g2 = Q.gv) ∨ wd.heap.size ≤ g2)) ∧ RowAt w2 Q.gc 69 1 Q.kids.length Q.cc (pcells Q.kids) from ⟨⟨H1.out.1.1.grown_far H1.out.2.1 (by decide) h2.2.2.1, H1.out.1.2⟩, ⟨h2.2.1, h2.1, h2.2.2.2.imp id (fun h => Nat.le_trans H1.out.2.2.2.size h)⟩, H1.out.2.2.1.grown_far H1.out.2.1 (by decide) h2.2.2.1⟩)
        clear h2 H1
        refine anyS_take (i := 16) (v := ?_) (by (simp only [List.getElem?_toArray, List.getElem?_cons_zero, List.getElem?_cons_succ]); exact rfl) (by kernel_rfl) (by kernel_rfl) (by kernel_rfl) (by kernel_rfl) (by decide) (by intro _ _ _ h; exact h) (Or.inl ⟨by rfl, ?_⟩) (by assumption) ?_
        rotate_left
        · (intro w hSw; (try dsimp only at hSw); go_simp; (try with_reducible rfl))
        try simp only [Act.put, List.setIfInBounds_toArray, List.set_cons_zero, List.set_cons_succ]
        refine anyS_take (i := 17) (v := ?_) (by (simp only [List.getElem?_toArray, List.getElem?_cons_zero, List.getElem?_cons_succ]); exact rfl) (by kernel_rfl) (by kernel_rfl) (by kernel_rfl) (by kernel_rfl) (by decide) (by intro _ _ _ h; exact h) (Or.inl ⟨by rfl, ?_⟩) (by assumption) ?_
        rotate_left
        · (intro w hSw; (try dsimp only at hSw); go_simp; (try with_reducible rfl))
        try simp only [Act.put, List.setIfInBounds_toArray, List.set_cons_zero, List.set_cons_succ]
        refine anyS_exit (e := 18) (by kernel_rfl) (by (simp only [List.getElem?_toArray, List.getElem?_cons_zero, List.getElem?_cons_succ]); exact rfl) (by rfl) (fun K hK => ?_)
        have c0 := hHeld.1
        have c1' := hHeld.2.1
        have f0 := (HBP.out _ hHeld.2.2.2.2).frozen 0
        have f1 := (HBP.out _ hHeld.2.2.2.2).frozen 1
        have HT := Lib.hid hHeld.2.2.2.2
        clear hHeld
        go_simp
        refine hK.out _ _ ?_
        clear hK K
        try simp only [Act.put, List.setIfInBounds_toArray, List.set_cons_zero, List.set_cons_succ]
        refine wpAnyIn_take (i := 19) (v := ?_) rfl (by (simp only [List.getElem?_toArray, List.getElem?_cons_zero, List.getElem?_cons_succ]); exact rfl) (by kernel_rfl) (by kernel_rfl) (by kernel_rfl) (by intro _ _ _ h; exact h) ⟨Or.inl ⟨by rfl, ?_⟩, fun _ => rfl⟩ ?_
        rotate_left
        · (intro w; go_simp; (try with_reducible rfl))
        try simp only [Act.put, List.setIfInBounds_toArray, List.set_cons_zero, List.set_cons_succ]
        refine wpAnyIn_take (i := 20) (v := ?_) rfl (by (simp only [List.getElem?_toArray, List.getElem?_cons_zero, List.getElem?_cons_succ]); exact rfl) (by kernel_rfl) (by kernel_rfl) (by kernel_rfl) (by intro _ _ _ h; exact h) ⟨Or.inl ⟨by rfl, ?_⟩, fun _ => rfl⟩ ?_
        rotate_left
        · (intro w; go_simp; (try with_reducible rfl))
        try simp only [Act.put, List.setIfInBounds_toArray, List.set_cons_zero, List.set_cons_succ]
        refine in_only (i := 21) (by kernel_rfl) (by (simp only [List.getElem?_toArray, List.getElem?_cons_zero, List.getElem?_cons_succ]); exact rfl) (by rfl) (fun K hK => ?_)
        go_simp
        refine hK.out _ _ ?_
        clear hK K
        try simp only [Act.put, List.setIfInBounds_toArray, List.set_cons_zero, List.set_cons_succ]
        refine wpAnyIn_done (by kernel_rfl) ?_ _
        have e1 := insAt_len Q.ks i (⟨kt, kk⟩ : Ky)
        have e2 := insAt_len Q.vs i v
        obtain ⟨k1, k2, k3⟩ := H2.out
        have hX := page_two (HBP.out _ HT.out) (ks := insAt Q.ks i ⟨kt, kk⟩) (vs := insAt Q.vs i v) (kids := Q.kids) (by rw [e1]; exact k1.1) (by rw [e2]; exact k2.1) k3 k1.2.1 k2.2.1
        rw [e1, e2] at hX
        have hfin := HS2.out.put (v := v) HKD2.out.size HB.out.symm rfl ((HT.out.mono (fun x hx => List.mem_cons_of_mem _ hx)).trans ((Touch.set _ ⟨p, 0, none⟩ _ _ (by simp)).trans (Touch.set _ ⟨p, 1, none⟩ _ _ (by simp)))) hX (by rw [HI.out]) (by rw [HI.out]) rfl (fun _ => k1.2.2) (fun _ => k2.2.2) (fun h => .inl ⟨h, rfl⟩)
        clear hX e1 e2 k1 k2 k3
        obtain ⟨W, hW⟩ : ∃ wq : World, wq = (w2.setCell ⟨p, 0, none⟩ (.slice (some ⟨g1, 0, none⟩) (Q.ks.length + 1) c1)).setCell ⟨p, 1, none⟩ (.slice (some ⟨g2, 0, none⟩) (Q.vs.length + 1) c2) := ⟨_, rfl⟩
        rw [← hW] at hfin ⊢
        obtain ⟨M', hth, hfr, _⟩ := hfin.1.st
        have hk := HK.out.fr hfr hth
        have t2 : W.cell? ⟨tr, 2, none⟩ = some (.int .i64 es.length) := hk.tree.cell 2
        have t2f := Blk.frozen hk.tree 2
        have hwc : IntKind.i64.wrap ((es.length : Int) + 1) = (es.length : Int) + 1 := IntWalk.i64_in _ (by omega)
        have hlen' := insE_len ⟨kt, kk⟩ v es HUP.out
        rw [hfin.2] at hlen'
        have HFIN := Lib.hid (hfin.1.counted (u := .int .i64 ((es.length : Int) + 1)) HK.out HF.out (insE_up HUP.out).1 (by rw [hlen']; simp))
        have HHAS := Lib.hid hfin.2
        clear hfin hlen' hth hfr hk hW H2 HT c0 c1' f0 f1 HBP HC1 HC2 HP
        go_wp2_with fail
        go_ret
        refine ⟨?_, HFIN.out⟩
        rw [HHAS.out]
        rfl
      · have hkd : ((Q.kids.length : Int) == 0) = false := by rw [hkl]; exact beq_eq_false_iff_ne.2 (by omega)
        have hcc : 0 < Q.cc := HS.out.page.kids.pos (by omega)
        obtain rfl := hA2p hcc
        obtain ⟨lp, hlp⟩ : ∃ lp, lp = Q.kids.getD i 0 := ⟨_, rfl⟩
        have k2 : wd.cell? ⟨Q.gc, i, none⟩ = some (.pointer (some ⟨lp, 0, none⟩)) := by rw [hlp]; exact HS.out.page.kid (by omega)
        obtain ⟨L, hl, hne, hlv, hlh, hlk, hstep⟩ := HS.out.kid HB.out.symm
        rw [← HI.out, ← hlp] at hl hne hstep
        obtain ⟨A, hA, _, _⟩ := sl_form L.gk L.ks.length L.ck (HS.out.th.page hl).keys.1
        have l0 : wd.cell? ⟨lp, 0, none⟩ = some (.slice A L.ks.length L.ck) := by rw [(HS.out.th.page hl).blk.cell 0]; exact congrArg some hA
        have hil : (i : Int) < (Q.kids.length : Int) := by omega
        have HKL := Lib.hid hkl
        have HLP := Lib.hid hlp
        clear hkl hA hlp
        by_cases hfull : L.ks.length = 2 * d - 1
        · have hfd : ((L.ks.length : Int) == 2 * (d : Int) - 1) = true := beq_iff_eq.2 (by omega)
          have hroom : Q.ks.length ≤ 2 * d - 2 := by
            rcases HS.out.room with h | ⟨_, L2, h1, h2⟩
            · exact h
            · rw [← HI.out, ← HLP.out, hl] at h1
              cases h1
              exact absurd hfull h2
          have HSP := Lib.hid (split_any (w := wd) (M := Mx) (p := p) (i := i) (lp := lp) (d := d) HS.out.th HKD.out.size HS.out.at_ hl hne hin HKL.out HLP.out.symm HS.out.vs hroom hfull hlv (by rcases hlk with h | h; exact .inl h; exact .inr (by omega)) hd2 hd)
          have HFULL := Lib.hid (And.intro hfull (And.intro hl (And.intro hne hroom)))
          clear hfull hstep hlv hlh hlk hroom hl hne
          have t0 : wd.cell? ⟨tr, 0, none⟩ = some (.int .i64 d) := HKD.out.tree.cell 0
          go_wp2_with (go_at_call 46; refine HSP.out.mono ?_; rintro e w1 ⟨rfl, rp, P', L', R', hr, n1, n2, hSt, hP, hL, hR⟩)
          have hnew := HS.out.split (h' := h') (lp := lp) (by rw [← HI.out]; exact HLP.out.symm) HFULL.out.2.1 HFULL.out.2.2.1 HFULL.out.1 hr n1 n2 hSt (by rw [← HI.out]; exact hP) hL hR
          go_roundg ((h' + 1) * (2 * d) + (2 * d - 1 - P'.ks.length))
          case measure => have := hnew.2.1; have := hnew.2.2; omega
          case rel => exact ⟨p, h' + 1, P', _, rfl, rfl, hnew.1⟩
        · have hfd : ((L.ks.length : Int) == 2 * (d : Int) - 1) = false := beq_eq_false_iff_ne.2 (by omega)
          have HST := Lib.hid (hstep hfull)
          have HLH := Lib.hid hlh
          clear hfull hstep hlv hlk hlh
          go_wp2_with fail
          go_roundg (h' * (2 * d) + (2 * d - 1 - L.ks.length))
          case measure => rw [Nat.add_mul h' 1 (2 * d)]; omega
          case rel => exact ⟨lp, h', L, Mx, rfl, rfl, HST.out⟩
    · obtain ⟨hlt, _⟩ := hit_key HB.out.symm
      rw [← HI.out] at hlt
      have hcv : 0 < Q.cv := hS.page.vals.pos (by rw [hS.vs]; omega)
      have hvl : i < Q.vs.length := by rw [hS.vs]; exact hlt
      have q1 : wd.cell? ⟨p, 1, none⟩ = some (.slice (some ⟨Q.gv, 0, none⟩) Q.vs.length Q.cv) := by rw [hS.page.blk.cell 1]; exact congrArg some (sl_pos _ _ _ hcv)
      have qv := hS.page.val hvl
      have qf := hS.page.vals.frozen (i := i) hcv
      have hil : (i : Int) < (Q.vs.length : Int) := by omega
      have hfin := hS.found (v := v) hKd.size HB.out.symm (W' := wd.setCell ⟨Q.gv, i, none⟩ (.int .i64 v)) (Touch.set _ ⟨Q.gv, i, none⟩ _ _ (List.mem_cons_of_mem _ ((Pg.mem_blocks _ _).2 (.inr (.inl ⟨hcv, rfl⟩))))) (hS.page.set_v hvl) rfl (by rw [HI.out]) rfl (fun h => .inl ⟨h, rfl⟩) (fun h => .inl ⟨h, rfl⟩) (fun h => .inl ⟨h, rfl⟩)
      have hlen' := insE_len ⟨kt, kk⟩ v es HUP.out
      rw [hfin.2, if_pos rfl, Nat.add_zero] at hlen'
      have HFIN := Lib.hid (hfin.1.done HK.out HF.out (insE_up HUP.out).1 (by rw [hlen']))
      have HHAS := Lib.hid hfin.2
      clear hfin hlen' hlt hvl hS hKd
      go_wp2_with fail
      go_ret
      refine ⟨?_, HFIN.out⟩
      rw [HHAS.out]
      rfl
end Go.Proofs.Ytmmikolcipcldaa
