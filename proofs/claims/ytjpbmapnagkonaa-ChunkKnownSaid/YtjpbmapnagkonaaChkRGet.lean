/-
  What is proved here: Get of package chunk's reference (chapter 13). Conditions: bytes are bytes.
-/
import Derived.Test.YtjpbmapnagkonaaChkGet
namespace Go.Proofs.Ytjpbmapnagkonaa
open Go.RowKit Go.Deep Go.Joins Go.WideShapes

theorem tail_iff {L P : List Int} (hL : ∀ i, U8 (L.getD i 0)) : (∀ j, 2 ≤ j → j < 6 → L.getD j 0 = (putL P).getD j 0) ↔ sumB L = sumL P := by
  have e2 : (putL P).getD 2 0 = sumL P / 16777216 := rfl
  have e3 : (putL P).getD 3 0 = sumL P / 65536 % 256 := rfl
  have e4 : (putL P).getD 4 0 = sumL P / 256 % 256 := rfl
  have e5 : (putL P).getD 5 0 = sumL P % 256 := rfl
  have h2 := hL 2
  have h3 := hL 3
  have h4 := hL 4
  have h5 := hL 5
  unfold U8 at h2 h3 h4 h5
  unfold sumB
  constructor
  · intro h
    have k2 := h 2 (by omega) (by omega)
    have k3 := h 3 (by omega) (by omega)
    have k4 := h 4 (by omega) (by omega)
    have k5 := h 5 (by omega) (by omega)
    rw [e2] at k2
    rw [e3] at k3
    rw [e4] at k4
    rw [e5] at k5
    omega
  · intro h j h1 h6
    have : j = 2 ∨ j = 3 ∨ j = 4 ∨ j = 5 := by omega
    rcases this with rfl | rfl | rfl | rfl
    · rw [e2]; omega
    · rw [e3]; omega
    · rw [e4]; omega
    · rw [e5]; omega

set_option maxHeartbeats 1000000 in
theorem rget_short (A : Option Addr) (n cap : Nat) (w : World) (hn : n < 6) :
    Calls Try.prog 17 #[.slice A n cap] w (GetBack [] 0 0 1 w) := by
  have t1 : (n : Int) < 6 := by omega
  go_enter Try.func17, Try.ntmps17
  go_wp2_with fail
  refine bodyPost_ret (v := .tuple #[.slice none 0 0, .int .i64 0, .int .i64 1]) ?_ rfl (getBack_nil rfl (by (repeat (first | (with_reducible assumption) | (with_reducible exact Below.refl _ _) | ((with_reducible refine Below.setCell ?_ ?_ _); rotate_left; · (first | omega | (simp; done) | (simp; omega) | (simp at *; omega))) | ((with_reducible refine Below.alloc ?_ ?_ _); rotate_left; · (first | omega | (simp; done) | (simp; omega) | (simp at *; omega))) | (with_reducible refine Below.drew ?_) | (with_reducible refine below_drewN ?_ _) | ((refine Below.trans ?_ (Below.mono (by with_reducible assumption) ?_)); rotate_left; · (first | omega | (simp; done) | (simp; omega) | (simp at *; omega)))))))
  simp [results, Try.results17, go_sem]

set_option maxHeartbeats 4000000 in
theorem rget_rest (bb off n cap : Nat) (L : List Int) (w : World) (hln : L.length = n) (hA : IntsAt .u8 w (some ⟨bb, off, none⟩) L) (hL : ∀ x ∈ L, U8 x) (hn : 6 ≤ n) (hn2 : n ≤ 140737488351232) (hcap : n ≤ cap) :
    Calls Try.prog 17 #[.slice (some ⟨bb, off, none⟩) n cap] w (GetBack (getTo L).1 (getTo L).1.length (getTo L).2.1 (getTo L).2.2 w) := by
  have t1 : ¬ (n : Int) < 6 := by omega
  obtain ⟨bb', off', e', hbb, hcell⟩ := hA (by omega)
  cases e'
  have h0 := hcell 0 (by omega)
  have h1 := hcell 1 (by omega)
  have HA := Lib.hid hA
  have HCL := Lib.hid hcell
  have HL := Lib.hid hL
  have HN := Lib.hid hln
  have hm := lenI_in hL
  obtain ⟨a0, b0⟩ := getD_u8 hL 0
  obtain ⟨a1, b1⟩ := getD_u8 hL 1
  have hml : lenI L = L.getD 0 0 * 256 + L.getD 1 0 := rfl
  have HG := Lib.hid (show getTo L = if n < 6 then ([], 0, 1) else if 1024 < lenI L then ([], 0, 2) else if (n : Int) < 6 + lenI L then ([], 0, 1) else if sumB L = sumL (payL L) then (payL L, 6 + lenI L, 0) else ([], 0, 5) by unfold getTo; rw [hln])
  obtain ⟨x0, hx0⟩ : ∃ x, x = L.getD 0 0 := ⟨_, rfl⟩
  obtain ⟨x1, hx1⟩ : ∃ x, x = L.getD 1 0 := ⟨_, rfl⟩
  obtain ⟨m, hmm⟩ : ∃ x, x = lenI L := ⟨_, rfl⟩
  rw [← hx0] at h0 a0 b0 hml
  rw [← hx1] at h1 a1 b1 hml
  rw [← hmm] at hm hml HG
  have HM := Lib.hid hml
  have HMM := Lib.hid hmm
  rw [Nat.add_zero] at h0
  obtain ⟨m0, m1⟩ := hm
  obtain ⟨R, hR⟩ : ∃ R, R = GetBack (getTo L).1 (getTo L).1.length (getTo L).2.1 (getTo L).2.2 w := ⟨_, rfl⟩
  rw [← hR]
  have HR := Lib.hid hR
  clear hA hcell hL hln hx0 hx1 hml hmm hR
  have k0 : 0 < n := by omega
  have k1 : 1 < n := by omega
  go_enter Try.func17, Try.ntmps17
  go_upto_region 3 with fail
  go_cut [5] (fun s5 wx => s5 = .int .i64 m ∧ Below w.heap.size w wx)
  case first =>
    have e1 : IntKind.i64.wrap (x0 * 256) = x0 * 256 := IntWalk.i64_in _ ⟨by omega, by omega⟩
    have e2 : IntKind.i64.wrap (x0 * 256 + x1) = x0 * 256 + x1 := IntWalk.i64_in _ ⟨by omega, by omega⟩
    go_quiet (fail)
    go_wp2_with fail
    go_meet
    exact ⟨by rw [HM.out], by (repeat (first | (with_reducible assumption) | (with_reducible exact Below.refl _ _) | ((with_reducible refine Below.setCell ?_ ?_ _); rotate_left; · (first | omega | (simp; done) | (simp; omega) | (simp at *; omega))) | ((with_reducible refine Below.alloc ?_ ?_ _); rotate_left; · (first | omega | (simp; done) | (simp; omega) | (simp at *; omega))) | (with_reducible refine Below.drew ?_) | (with_reducible refine below_drewN ?_ _) | ((refine Below.trans ?_ (Below.mono (by with_reducible assumption) ?_)); rotate_left; · (first | omega | (simp; done) | (simp; omega) | (simp at *; omega)))))⟩
  case rest =>
  obtain ⟨rfl, hbx⟩ := hcut
  obtain ⟨wx, rfl⟩ : ∃ wq : World, wq = wc := ⟨_, rfl⟩
  have HBX := Lib.hid hbx
  clear hbx h0 h1 a0 b0 a1 b1
  by_cases c1 : 1024 < m
  · have HG2 := Lib.hid (show getTo L = ([], 0, 2) by rw [HG.out, if_neg (by omega), if_pos c1])
    go_wp2_with fail
    refine bodyPost_ret (v := .tuple #[.slice none 0 0, .int .i64 0, .int .i64 2]) ?_ rfl (by rw [HR.out, HG2.out]; exact getBack_nil rfl HBX.out)
    simp [results, Try.results17, go_sem]
  have c1' : ¬ (1024 : Int) < m := c1
  by_cases c2 : (n : Int) < 6 + m
  · have HG2 := Lib.hid (show getTo L = ([], 0, 1) by rw [HG.out, if_neg (by omega), if_neg c1, if_pos c2])
    go_wp2_with fail
    refine bodyPost_ret (v := .tuple #[.slice none 0 0, .int .i64 0, .int .i64 1]) ?_ rfl (by rw [HR.out, HG2.out]; exact getBack_nil rfl HBX.out)
    simp [results, Try.results17, go_sem]
  have hpl := payL_len (L := L) (by rw [HN.out, ← HMM.out]; omega) (by rw [← HMM.out]; exact m0)
  rw [← HMM.out] at hpl
  obtain ⟨p, hp⟩ : ∃ p : Nat, p = (payL L).length := ⟨_, rfl⟩
  rw [← hp] at hpl
  have HPL := Lib.hid hp.symm
  obtain rfl : m = (p : Int) := by omega
  clear hpl hp
  have HY1 := Lib.hid (show sumB L = sumL (payL L) → getTo L = (payL L, 6 + (p : Int), 0) from fun h => by rw [HG.out, if_neg (by omega), if_neg c1, if_neg c2, if_pos h])
  have HY2 := Lib.hid (show ¬ sumB L = sumL (payL L) → getTo L = ([], 0, 5) from fun h => by rw [HG.out, if_neg (by omega), if_neg c1, if_neg c2, if_neg h])
  obtain ⟨i0, hi0, hz0, hz1, hz2⟩ := info_parts Bytes.infoE
  have HI0 := Lib.hid hi0
  have HZ0 := Lib.hid hz0
  have HZ1 := Lib.hid hz1
  have HZ2 := Lib.hid hz2
  clear hi0 hz0 hz1 hz2
  have HZI := Lib.hid (zero_intK .u8)
  have k3 : 0 + p ≤ maxLen := by unfold maxLen; omega
  have k4 : (0 + p) * 1 ≤ 140737488355328 := by omega
  have k8 : ((payL L).map (Value.int .u8)).length = p * 1 := by rw [List.length_map, HPL.out]; omega
  have K8 := Lib.hid k8
  clear k8
  have ho0 := own_of_blk (k := .u8) (base := w.heap.size) (L := []) (n := 0) (Blk.new wx 5 #[]) HBX.out.size rfl rfl (by omega)
  have HO0 := Lib.hid ho0
  have hz1 : w.heap.size ≤ (wx.alloc (.cells #[] 5)).heap.size := by have := HBX.out.size; simp; omega
  have hax := (HA.out.below HBX.out (Nat.le_refl _)).alloc (.cells #[] 5)
  have HPU := Lib.hid (payL_u8 HL.out)
  clear ho0
  go_upto_region 8 with fail
  go_cut [6] (fun s6 wz => ∃ A' cap', s6 = .slice A' p cap' ∧ OwnG (IsIntK .u8) wz w.heap.size 5 1 (.slice A' p cap') p ((payL L).map (Value.int .u8)) ∧ Below w.heap.size w wz)
  case first =>
    by_cases hc6 : cap = 6
    · have hp0 : p = 0 := by omega
      have hnw : ∀ ad, (some (⟨bb, off, none⟩ : Addr)) = some ad → ∀ j u, ((payL L).map (Value.int .u8))[j]? = some u → (wx.alloc (.cells #[] 5)).cell? (ad.add j) = some u := by
        intro ad _ j u hu
        have := (List.getElem?_eq_some_iff.1 hu).1
        rw [K8.out] at this
        omega
      have HNW := Lib.hid hnw
      have K80 := Lib.hid (show ((payL L).map (Value.int .u8)).length = (6 + p - 6) * 1 by rw [K8.out]; omega)
      have k30 : 0 + (6 + p - 6) ≤ maxLen := by unfold maxLen; omega
      have k40 : (0 + (6 + p - 6)) * 1 ≤ 140737488355328 := by omega
      have hc7 : cap ≤ 6 := by omega
      clear hnw hax hp0 k3 k4 hc6
      go_wp2_with (at_builtin; refine wpList_append_G_any _ rfl (.tmp 30) (.tmp 34) 22 rfl (IsIntK .u8) w.heap.size 5 i0 _ 1 1 Try.underlying22 HI0.out HZ0.out HZ1.out HZ2.out rfl (by omega) _ 0 _ rfl HO0.out _ (6 + p - 6) _ ((payL L).map (Value.int .u8)) rfl K80.out (fun h => by cases h) HNW.out (ints_oneCell .u8 _) k30 k40 hz1 HZI.out (ints_all .u8 _) (ints_all .u8 _) ?_; intro v3 w3 hown3 hgrow3; have hb3 : Below w.heap.size w w3 := (HBX.out.alloc HBX.out.size _).grown hgrow3 hz1 (fun q hq => (HO0.out.1.lt q hq).1); have hown4 : OwnG (IsIntK .u8) w3 w.heap.size 5 1 v3 p ((payL L).map (Value.int .u8)) := (by rw [show 0 + (6 + p - 6) = p by omega] at hown3; exact hown3); obtain ⟨A', cap', rfl⟩ := hown4.slice)
      go_meet
      exact ⟨A', cap', rfl, hown4, hb3⟩
    · have hnw : ∀ ad, (some (⟨bb, off + 6, none⟩ : Addr)) = some ad → ∀ j u, ((payL L).map (Value.int .u8))[j]? = some u → (wx.alloc (.cells #[] 5)).cell? (ad.add j) = some u := by
        intro ad e j u hu
        cases e
        have hj := (List.getElem?_eq_some_iff.1 hu).1
        rw [K8.out] at hj
        obtain ⟨b', o', e', _, hc⟩ := hax (by rw [HN.out]; omega)
        cases e'
        have h5 := hc (6 + j) (by rw [HN.out]; omega)
        rw [Addr.add_lit, Nat.add_assoc, h5]
        have e2 : ((payL L).map (Value.int .u8))[j]? = some (.int .u8 (L.getD (6 + j) 0)) := by
          rw [List.getElem?_map]
          unfold payL
          rw [List.getElem?_take, if_pos (by rw [← HMM.out]; omega), List.getElem?_drop, List.getElem?_eq_getElem (show 6 + j < L.length by rw [HN.out]; omega)]
          simp [List.getD_eq_getElem?_getD, List.getElem?_eq_getElem (show 6 + j < L.length by rw [HN.out]; omega)]
        rw [e2] at hu
        exact hu
      have HNW := Lib.hid hnw
      have K80 := Lib.hid (show ((payL L).map (Value.int .u8)).length = (6 + p - 6) * 1 by rw [K8.out]; omega)
      have k30 : 0 + (6 + p - 6) ≤ maxLen := by unfold maxLen; omega
      have k40 : (0 + (6 + p - 6)) * 1 ≤ 140737488355328 := by omega
      clear hnw hax
      go_wp2_with (at_builtin; refine wpList_append_G_any _ rfl (.tmp 30) (.tmp 34) 22 rfl (IsIntK .u8) w.heap.size 5 i0 _ 1 1 Try.underlying22 HI0.out HZ0.out HZ1.out HZ2.out rfl (by omega) _ 0 _ rfl HO0.out _ (6 + p - 6) _ ((payL L).map (Value.int .u8)) rfl K80.out (fun h => by cases h) HNW.out (ints_oneCell .u8 _) k30 k40 hz1 HZI.out (ints_all .u8 _) (ints_all .u8 _) ?_; intro v3 w3 hown3 hgrow3; have hb3 : Below w.heap.size w w3 := (HBX.out.alloc HBX.out.size _).grown hgrow3 hz1 (fun q hq => (HO0.out.1.lt q hq).1); have hown4 : OwnG (IsIntK .u8) w3 w.heap.size 5 1 v3 p ((payL L).map (Value.int .u8)) := (by rw [show 0 + (6 + p - 6) = p by omega] at hown3; exact hown3); obtain ⟨A', cap', rfl⟩ := hown4.slice)
      go_meet
      exact ⟨A', cap', rfl, hown4, hb3⟩
  case rest =>
  obtain ⟨A', cap', rfl, hown, hbz⟩ := hcut
  obtain ⟨wz, rfl⟩ : ∃ wq : World, wq = wc := ⟨_, rfl⟩
  have HOW := Lib.hid hown
  have HBZ := Lib.hid hbz
  clear hown hbz hax HO0 hz1 HBX
  have hca : A' = none → cap' = 0 := fun e => by
    rcases irow_of_own (by rw [HPL.out]; exact HOW.out) with ⟨e', _⟩ | ⟨g, c, e', _⟩
    · cases e'; rfl
    · rw [e] at e'; cases e'
  have HCA := Lib.hid hca
  have HIF := Lib.hid (tail_iff (L := L) (P := payL L) (getD_u8 HL.out))
  clear hca
  go_wp2_with fail
  refine (rput_any A' cap' p (payL L) _ HPL.out (own_ints HOW.out) HCA.out HPU.out (by omega)).mono ?_
  rintro e wy ⟨B, cb, rfl, hpl, hob, hby⟩
  have HBY := Lib.hid (HBZ.out.trans (hby.mono HBZ.out.size))
  have HOY := Lib.hid (HOW.out.below hby)
  have HCI := Lib.hid (own_ints hob)
  have HPP := Lib.hid hpl
  have HAY := Lib.hid (HA.out.below HBY.out (Nat.le_refl _))
  clear hpl hob hby HOW HBZ
  go_wp2_with fail
  go_loopg [9] 4 (fun gm i wr => ∃ k : Nat, 2 ≤ k ∧ k ≤ 6 ∧ gm = 6 - k ∧ i = .int .i64 k ∧ (∀ j, 2 ≤ j → j < k → L.getD j 0 = (putL (payL L)).getD j 0) ∧ Below wy.heap.size wy wr)
  case atStart => exact ⟨2, by omega, by omega, rfl, rfl, fun j h1 h2 => by omega, Below.refl _ _⟩
  case round =>
    obtain ⟨k, hk2, hk6, rfl, rfl, hsame, hbr⟩ := hrel
    have HSA := Lib.hid hsame
    have HBR := Lib.hid hbr
    clear hsame
    by_cases hlt : k < 6
    · have hki : (k : Int) < 6 := by omega
      have hk0 : (0 : Int) ≤ (k : Int) := by omega
      obtain ⟨b1, o1, e1, hl1, hc1⟩ := HAY.out (by rw [HN.out]; omega)
      cases e1
      obtain ⟨b2, o2, e2, hl2, hc2⟩ := HCI.out (by rw [HPP.out]; omega)
      cases e2
      have g1 := (hbr.cell (p := ⟨bb, off + k, none⟩) hl1).trans (hc1 k (by rw [HN.out]; omega))
      have g2 := (hbr.cell (p := ⟨b2, o2 + k, none⟩) hl2).trans (hc2 k (by rw [HPP.out]; omega))
      obtain ⟨x, hx⟩ : ∃ x, x = L.getD k 0 := ⟨_, rfl⟩
      obtain ⟨y, hy⟩ : ∃ y, y = (putL (payL L)).getD k 0 := ⟨_, rfl⟩
      rw [← hx] at g1
      rw [← hy] at g2
      have HX := Lib.hid hx
      have HY := Lib.hid hy
      have j1 : (k : Int) < (n : Int) := by omega
      have j2 : (k : Int) < 6 + (p : Int) := by omega
      have j3 : k < n := by omega
      have j4 : k < 6 + p := by omega
      clear hx hy hc1 hc2
      by_cases hxy : x = y
      · have HQ := Lib.hid hxy
        have t5 : (x == y) = true := by rw [beq_iff_eq]; exact hxy
        have t6 : (x != y) = false := by simp [hxy]
        clear hxy
        go_upto_region 13 with fail
        go_cut [53] (fun s53 wq => s53 = .bool false ∧ Below wy.heap.size wy wq)
        case first =>
          go_quiet (fail)
          go_wp2_with fail
          go_meet
          exact ⟨rfl, by (repeat (first | (with_reducible assumption) | (with_reducible exact Below.refl _ _) | ((with_reducible refine Below.setCell ?_ ?_ _); rotate_left; · (first | omega | (simp; done) | (simp; omega) | (simp at *; omega))) | ((with_reducible refine Below.alloc ?_ ?_ _); rotate_left; · (first | omega | (simp; done) | (simp; omega) | (simp at *; omega))) | (with_reducible refine Below.drew ?_) | (with_reducible refine below_drewN ?_ _) | ((refine Below.trans ?_ (Below.mono (by with_reducible assumption) ?_)); rotate_left; · (first | omega | (simp; done) | (simp; omega) | (simp at *; omega)))))⟩
        case rest =>
          obtain ⟨rfl, hbq⟩ := hcut
          clear g1 g2 t5 t6 j1 j2 j3 j4
          go_wp2_with fail
          go_roundg (6 - (k + 1))
          case measure => omega
          case rel =>
            refine ⟨k + 1, by omega, by omega, rfl, by go_num, fun j h1 h2 => ?_, hbq⟩
            by_cases e : j = k
            · subst e; rw [← HX.out, ← HY.out]; exact HQ.out
            · exact HSA.out j h1 (by omega)
      · have HQ := Lib.hid hxy
        have t5 : (x == y) = false := by rw [beq_eq_false_iff_ne]; exact hxy
        have t6 : (x != y) = true := by simp [hxy]
        have heq : ¬ sumB L = sumL (payL L) := fun h => by
          have := (HIF.out.2 h) k hk2 hlt
          rw [← HX.out, ← HY.out] at this
          exact HQ.out this
        have HG2 := Lib.hid (HY2.out heq)
        clear hxy heq
        go_upto_region 13 with fail
        go_cut [53] (fun s53 wq => s53 = .bool true ∧ Below wy.heap.size wy wq)
        case first =>
          go_quiet (fail)
          go_wp2_with fail
          go_meet
          exact ⟨rfl, by (repeat (first | (with_reducible assumption) | (with_reducible exact Below.refl _ _) | ((with_reducible refine Below.setCell ?_ ?_ _); rotate_left; · (first | omega | (simp; done) | (simp; omega) | (simp at *; omega))) | ((with_reducible refine Below.alloc ?_ ?_ _); rotate_left; · (first | omega | (simp; done) | (simp; omega) | (simp at *; omega))) | (with_reducible refine Below.drew ?_) | (with_reducible refine below_drewN ?_ _) | ((refine Below.trans ?_ (Below.mono (by with_reducible assumption) ?_)); rotate_left; · (first | omega | (simp; done) | (simp; omega) | (simp at *; omega)))))⟩
        case rest =>
          obtain ⟨rfl, hbq⟩ := hcut
          have HBQ := Lib.hid (HBY.out.trans (hbq.mono HBY.out.size))
          clear g1 g2 t5 t6 j1 j2 j3 j4
          go_wp2_with fail
          refine bodyPost_ret (v := .tuple #[.slice none 0 0, .int .i64 0, .int .i64 5]) ?_ rfl (by rw [HR.out, HG2.out]; exact getBack_nil rfl HBQ.out)
          simp [results, Try.results17, go_sem]
    · obtain rfl : k = 6 := by omega
      have heq : sumB L = sumL (payL L) := HIF.out.1 HSA.out
      have HG2 := Lib.hid (HY1.out heq)
      have HBQ := Lib.hid (HBY.out.trans (hbr.mono HBY.out.size))
      have HOQ := Lib.hid (HOY.out.below hbr)
      clear heq
      go_wp2_with fail
      refine bodyPost_ret (v := .tuple #[.slice A' p cap', .int .i64 (6 + (p : Int)), .int .i64 0]) ?_ rfl (by rw [HR.out, HG2.out]; exact ⟨A', cap', by rw [HPL.out], rfl, by rw [HPL.out]; exact HOQ.out, HBQ.out⟩)
      simp [results, Try.results17, go_sem]
end Go.Proofs.Ytjpbmapnagkonaa
