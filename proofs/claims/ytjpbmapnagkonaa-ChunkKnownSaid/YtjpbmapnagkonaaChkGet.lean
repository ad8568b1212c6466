/-
  What is proved here: Get of package chunk (chapter 13). Conditions: bytes are bytes.
-/
import Derived.Test.YtjpbmapnagkonaaChkRPut
import Derived.Lib.EndianBits
import Derived.Deep.RegionHeld3
namespace Go.Proofs.Ytjpbmapnagkonaa
open Go.RowKit Go.Deep Go.Joins Go.WideShapes

def lenI (L : List Int) : Int := L.getD 0 0 * 256 + L.getD 1 0
def payL (L : List Int) : List Int := (L.drop 6).take (lenI L).toNat
def sumB (L : List Int) : Int := L.getD 2 0 * 16777216 + L.getD 3 0 * 65536 + L.getD 4 0 * 256 + L.getD 5 0
/-- what bytes begin with: a payload, how many bytes, how it went. -/
def getTo (L : List Int) : List Int × Int × Int :=
  if L.length < 6 then ([], 0, 1) else if 1024 < lenI L then ([], 0, 2) else if (L.length : Int) < 6 + lenI L then ([], 0, 1) else if sumB L = sumL (payL L) then (payL L, 6 + lenI L, 0) else ([], 0, 5)
def GetBack (P : List Int) (l : Nat) (m n : Int) (w : World) (e : Ending) (w' : World) : Prop :=
  ∃ A cap, e = .returned (.tuple #[.slice A l cap, .int .i64 m, .int .i64 n]) ∧ P.length = l ∧ OwnG (IsIntK .u8) w' w.heap.size 5 1 (.slice A l cap) l (P.map (Value.int .u8)) ∧ Below w.heap.size w w'
theorem getBack_nil {n : Int} {w w' : World} {e : Ending} (he : e = .returned (.tuple #[.slice none 0 0, .int .i64 0, .int .i64 n])) (hb : Below w.heap.size w w') : GetBack [] 0 0 n w e w' :=
  ⟨none, 0, he, rfl, OwnG.nil_ _ _ _ _, hb⟩
theorem or_i64 {x y : Int} (h0 : 0 ≤ x) (h1 : x ≤ 255) (h2 : 0 ≤ y) (h3 : y ≤ 255) : bits .or .i64 (x * 256) y = x * 256 + y :=
  bits_join .i64 62 (by decide) (fun n a b => IntWalk.i64_in _ ⟨by omega, by omega⟩) 8 (x * 256) y (by omega) (by omega) (by omega) h2 (by omega) (by omega)
theorem or_u32 (a b c d : Int) (ha : U8 a) (hb : U8 b) (hc : U8 c) (hd : U8 d) :
    bits .or .u32 (bits .or .u32 (bits .or .u32 (a * 16777216) (b * 65536)) (c * 256)) d = a * 16777216 + b * 65536 + c * 256 + d := by
  unfold U8 at *
  have e1 : bits .or .u32 (a * 16777216) (b * 65536) = a * 16777216 + b * 65536 := bits_join .u32 32 (by decide) wraps_u32 24 _ _ (by omega) (by omega) (by omega) (by omega) (by omega) (by omega)
  have e2 : bits .or .u32 (a * 16777216 + b * 65536) (c * 256) = a * 16777216 + b * 65536 + c * 256 := bits_join .u32 32 (by decide) wraps_u32 16 _ _ (by omega) (by omega) (by omega) (by omega) (by omega) (by omega)
  have e3 : bits .or .u32 (a * 16777216 + b * 65536 + c * 256) d = a * 16777216 + b * 65536 + c * 256 + d := bits_join .u32 32 (by decide) wraps_u32 8 _ _ (by omega) (by omega) (by omega) (by omega) (by omega) (by omega)
  rw [e1, e2, e3]
theorem payL_len {L : List Int} (h : (6 : Int) + lenI L ≤ L.length) (h0 : 0 ≤ lenI L) : ((payL L).length : Int) = lenI L := by
  unfold payL
  rw [List.length_take, List.length_drop]
  omega
theorem payL_u8 {L : List Int} (h : ∀ x ∈ L, U8 x) : ∀ x ∈ payL L, U8 x := fun x hx => h x (List.mem_of_mem_drop (List.mem_of_mem_take hx))
theorem getD_u8 {L : List Int} (h : ∀ x ∈ L, U8 x) (i : Nat) : U8 (L.getD i 0) := by
  by_cases hi : i < L.length
  · exact h _ (by rw [List.getD_eq_getElem?_getD, List.getElem?_eq_getElem hi]; simp)
  · rw [List.getD_eq_getElem?_getD, List.getElem?_eq_none (by omega)]; exact ⟨by decide, by decide⟩
theorem lenI_in {L : List Int} (h : ∀ x ∈ L, U8 x) : 0 ≤ lenI L ∧ lenI L ≤ 65535 := by
  have h0 := getD_u8 h 0
  have h1 := getD_u8 h 1
  unfold U8 at h0 h1
  unfold lenI
  omega

theorem own_ints {k : IntKind} {E : TypeId} {w : World} {base n c : Nat} {A : Option Addr} {L : List Int} (h : OwnG (IsIntK k) w base E 1 (.slice A n c) n (L.map (Value.int k))) : IntsAt k w A L := by
  have hn : L.length = n := by have := h.1.1; simpa using this
  subst hn
  rcases irow_of_own h with ⟨e, h0⟩ | ⟨g, cap, e, _, _, hr⟩
  · rw [h0]; exact IntsAt.nil_ _ _ _
  · cases e; exact hr.at_

set_option maxHeartbeats 1000000 in
theorem get_short (A : Option Addr) (n cap : Nat) (w : World) (hn : n < 6) :
    Calls Try.prog 12 #[.slice A n cap] w (GetBack [] 0 0 1 w) := by
  have t1 : (n : Int) < 6 := by omega
  go_enter Try.func12, Try.ntmps12
  go_wp2_with fail
  refine bodyPost_ret (v := .tuple #[.slice none 0 0, .int .i64 0, .int .i64 1]) ?_ rfl (getBack_nil rfl (by (repeat (first | (with_reducible assumption) | (with_reducible exact Below.refl _ _) | ((with_reducible refine Below.setCell ?_ ?_ _); rotate_left; · (first | omega | (simp; done) | (simp; omega) | (simp at *; omega))) | ((with_reducible refine Below.alloc ?_ ?_ _); rotate_left; · (first | omega | (simp; done) | (simp; omega) | (simp at *; omega))) | (with_reducible refine Below.drew ?_) | (with_reducible refine below_drewN ?_ _) | ((refine Below.trans ?_ (Below.mono (by with_reducible assumption) ?_)); rotate_left; · (first | omega | (simp; done) | (simp; omega) | (simp at *; omega)))))))
  simp [results, Try.results12, go_sem]

set_option maxHeartbeats 4000000 in
theorem get_rest (bb off n cap : Nat) (L : List Int) (w : World) (hln : L.length = n) (hA : IntsAt .u8 w (some ⟨bb, off, none⟩) L) (hL : ∀ x ∈ L, U8 x) (hn : 6 ≤ n) (hn2 : n ≤ 140737488351232) (hcap : n ≤ cap) :
    Calls Try.prog 12 #[.slice (some ⟨bb, off, none⟩) n cap] w (GetBack (getTo L).1 (getTo L).1.length (getTo L).2.1 (getTo L).2.2 w) := by
  have t1 : ¬ (n : Int) < 6 := by omega
  obtain ⟨bb', off', e', hbb, hcell⟩ := hA (by omega)
  cases e'
  have h0 := hcell 0 (by omega)
  have h1 := hcell 1 (by omega)
  have HA := Lib.hid hA
  have HCL := Lib.hid hcell
  have HL := Lib.hid hL
  have HN := Lib.hid hln
  have hm := lenI_in hL
  obtain ⟨a0, b0⟩ := getD_u8 hL 0
  obtain ⟨a1, b1⟩ := getD_u8 hL 1
  have hml : lenI L = L.getD 0 0 * 256 + L.getD 1 0 := rfl
  have HG := Lib.hid (show getTo L = if n < 6 then ([], 0, 1) else if 1024 < lenI L then ([], 0, 2) else if (n : Int) < 6 + lenI L then ([], 0, 1) else if sumB L = sumL (payL L) then (payL L, 6 + lenI L, 0) else ([], 0, 5) by unfold getTo; rw [hln])
  obtain ⟨x0, hx0⟩ : ∃ x, x = L.getD 0 0 := ⟨_, rfl⟩
  obtain ⟨x1, hx1⟩ : ∃ x, x = L.getD 1 0 := ⟨_, rfl⟩
  obtain ⟨m, hmm⟩ : ∃ x, x = lenI L := ⟨_, rfl⟩
  rw [← hx0] at h0 a0 b0 hml
  rw [← hx1] at h1 a1 b1 hml
  rw [← hmm] at hm hml HG
  have HM := Lib.hid hml
  have HMM := Lib.hid hmm
  rw [Nat.add_zero] at h0
  obtain ⟨m0, m1⟩ := hm
  obtain ⟨R, hR⟩ : ∃ R, R = GetBack (getTo L).1 (getTo L).1.length (getTo L).2.1 (getTo L).2.2 w := ⟨_, rfl⟩
  rw [← hR]
  have HR := Lib.hid hR
  clear hA hcell hL hln hx0 hx1 hml hmm hR
  have k0 : 0 < n := by omega
  have k1 : 1 < n := by omega
  go_enter Try.func12, Try.ntmps12
  go_upto_region 3 with fail
  go_cut [5] (fun s5 wx => s5 = .int .i64 m ∧ Below w.heap.size w wx)
  case first =>
    have HO := Lib.hid (or_i64 a0 b0 a1 b1)
    go_quiet (fail)
    go_wp2_with fail
    go_meet
    exact ⟨by rw [HO.out, HM.out], by (repeat (first | (with_reducible assumption) | (with_reducible exact Below.refl _ _) | ((with_reducible refine Below.setCell ?_ ?_ _); rotate_left; · (first | omega | (simp; done) | (simp; omega) | (simp at *; omega))) | ((with_reducible refine Below.alloc ?_ ?_ _); rotate_left; · (first | omega | (simp; done) | (simp; omega) | (simp at *; omega))) | (with_reducible refine Below.drew ?_) | (with_reducible refine below_drewN ?_ _) | ((refine Below.trans ?_ (Below.mono (by with_reducible assumption) ?_)); rotate_left; · (first | omega | (simp; done) | (simp; omega) | (simp at *; omega)))))⟩
  case rest =>
  obtain ⟨rfl, hbx⟩ := hcut
  obtain ⟨wx, rfl⟩ : ∃ wq : World, wq = wc := ⟨_, rfl⟩
  have HBX := Lib.hid hbx
  clear hbx h0 h1 a0 b0 a1 b1
  by_cases c1 : 1024 < m
  · have HG2 := Lib.hid (show getTo L = ([], 0, 2) by rw [HG.out, if_neg (by omega), if_pos c1])
    go_wp2_with fail
    refine bodyPost_ret (v := .tuple #[.slice none 0 0, .int .i64 0, .int .i64 2]) ?_ rfl (by rw [HR.out, HG2.out]; exact getBack_nil rfl HBX.out)
    simp [results, Try.results12, go_sem]
  have c1' : ¬ (1024 : Int) < m := c1
  by_cases c2 : (n : Int) < 6 + m
  · have HG2 := Lib.hid (show getTo L = ([], 0, 1) by rw [HG.out, if_neg (by omega), if_neg c1, if_pos c2])
    go_wp2_with fail
    refine bodyPost_ret (v := .tuple #[.slice none 0 0, .int .i64 0, .int .i64 1]) ?_ rfl (by rw [HR.out, HG2.out]; exact getBack_nil rfl HBX.out)
    simp [results, Try.results12, go_sem]
  have hpl := payL_len (L := L) (by rw [HN.out, ← HMM.out]; omega) (by rw [← HMM.out]; exact m0)
  rw [← HMM.out] at hpl
  obtain ⟨p, hp⟩ : ∃ p : Nat, p = (payL L).length := ⟨_, rfl⟩
  rw [← hp] at hpl
  have HPL := Lib.hid hp.symm
  obtain rfl : m = (p : Int) := by omega
  clear hpl hp
  obtain ⟨i0, hi0, hz0, hz1, hz2⟩ := info_parts Bytes.infoE
  have HI0 := Lib.hid hi0
  have HZ0 := Lib.hid hz0
  have HZ1 := Lib.hid hz1
  have HZ2 := Lib.hid hz2
  clear hi0 hz0 hz1 hz2
  have HZI := Lib.hid (zero_intK .u8)
  have k3 : 0 + p ≤ maxLen := by unfold maxLen; omega
  have k4 : (0 + p) * 1 ≤ 140737488355328 := by omega
  have k8 : ((payL L).map (Value.int .u8)).length = p * 1 := by rw [List.length_map, HPL.out]; omega
  have K8 := Lib.hid k8
  clear k8
  have ho0 := own_of_blk (k := .u8) (base := w.heap.size) (L := []) (n := 0) (Blk.new wx 5 #[]) HBX.out.size rfl rfl (by omega)
  have HO0 := Lib.hid ho0
  have hz1 : w.heap.size ≤ (wx.alloc (.cells #[] 5)).heap.size := by have := HBX.out.size; simp; omega
  have hax := (HA.out.below HBX.out (Nat.le_refl _)).alloc (.cells #[] 5)
  have HPU := Lib.hid (payL_u8 HL.out)
  clear ho0
  go_upto_region 8 with fail
  go_cut [6] (fun s6 wz => ∃ A' cap', s6 = .slice A' p cap' ∧ OwnG (IsIntK .u8) wz w.heap.size 5 1 (.slice A' p cap') p ((payL L).map (Value.int .u8)) ∧ Below w.heap.size w wz)
  case first =>
    by_cases hc6 : cap = 6
    · have hp0 : p = 0 := by omega
      have hnw : ∀ ad, (some (⟨bb, off, none⟩ : Addr)) = some ad → ∀ j u, ((payL L).map (Value.int .u8))[j]? = some u → (wx.alloc (.cells #[] 5)).cell? (ad.add j) = some u := by
        intro ad _ j u hu
        have := (List.getElem?_eq_some_iff.1 hu).1
        rw [K8.out] at this
        omega
      have HNW := Lib.hid hnw
      have K80 := Lib.hid (show ((payL L).map (Value.int .u8)).length = (6 + p - 6) * 1 by rw [K8.out]; omega)
      have k30 : 0 + (6 + p - 6) ≤ maxLen := by unfold maxLen; omega
      have k40 : (0 + (6 + p - 6)) * 1 ≤ 140737488355328 := by omega
      have hc7 : cap ≤ 6 := by omega
      clear hnw hax hp0 k3 k4 hc6
      go_wp2_with (at_builtin; refine wpList_append_G_any _ rfl (.tmp 29) (.tmp 33) 22 rfl (IsIntK .u8) w.heap.size 5 i0 _ 1 1 Try.underlying22 HI0.out HZ0.out HZ1.out HZ2.out rfl (by omega) _ 0 _ rfl HO0.out _ (6 + p - 6) _ ((payL L).map (Value.int .u8)) rfl K80.out (fun h => by cases h) HNW.out (ints_oneCell .u8 _) k30 k40 hz1 HZI.out (ints_all .u8 _) (ints_all .u8 _) ?_; intro v3 w3 hown3 hgrow3; have hb3 : Below w.heap.size w w3 := (HBX.out.alloc HBX.out.size _).grown hgrow3 hz1 (fun q hq => (HO0.out.1.lt q hq).1); have hown4 : OwnG (IsIntK .u8) w3 w.heap.size 5 1 v3 p ((payL L).map (Value.int .u8)) := (by rw [show 0 + (6 + p - 6) = p by omega] at hown3; exact hown3); obtain ⟨A', cap', rfl⟩ := hown4.slice)
      go_meet
      exact ⟨A', cap', rfl, hown4, hb3⟩
    · have hnw : ∀ ad, (some (⟨bb, off + 6, none⟩ : Addr)) = some ad → ∀ j u, ((payL L).map (Value.int .u8))[j]? = some u → (wx.alloc (.cells #[] 5)).cell? (ad.add j) = some u := by
        intro ad e j u hu
        cases e
        have hj := (List.getElem?_eq_some_iff.1 hu).1
        rw [K8.out] at hj
        obtain ⟨b', o', e', _, hc⟩ := hax (by rw [HN.out]; omega)
        cases e'
        have h5 := hc (6 + j) (by rw [HN.out]; omega)
        rw [Addr.add_lit, Nat.add_assoc, h5]
        have e2 : ((payL L).map (Value.int .u8))[j]? = some (.int .u8 (L.getD (6 + j) 0)) := by
          rw [List.getElem?_map]
          unfold payL
          rw [List.getElem?_take, if_pos (by rw [← HMM.out]; omega), List.getElem?_drop, List.getElem?_eq_getElem (show 6 + j < L.length by rw [HN.out]; omega)]
          simp [List.getD_eq_getElem?_getD, List.getElem?_eq_getElem (show 6 + j < L.length by rw [HN.out]; omega)]
        rw [e2] at hu
        exact hu
      have HNW := Lib.hid hnw
      have K80 := Lib.hid (show ((payL L).map (Value.int .u8)).length = (6 + p - 6) * 1 by rw [K8.out]; omega)
      have k30 : 0 + (6 + p - 6) ≤ maxLen := by unfold maxLen; omega
      have k40 : (0 + (6 + p - 6)) * 1 ≤ 140737488355328 := by omega
      clear hnw hax
      go_wp2_with (at_builtin; refine wpList_append_G_any _ rfl (.tmp 29) (.tmp 33) 22 rfl (IsIntK .u8) w.heap.size 5 i0 _ 1 1 Try.underlying22 HI0.out HZ0.out HZ1.out HZ2.out rfl (by omega) _ 0 _ rfl HO0.out _ (6 + p - 6) _ ((payL L).map (Value.int .u8)) rfl K80.out (fun h => by cases h) HNW.out (ints_oneCell .u8 _) k30 k40 hz1 HZI.out (ints_all .u8 _) (ints_all .u8 _) ?_; intro v3 w3 hown3 hgrow3; have hb3 : Below w.heap.size w w3 := (HBX.out.alloc HBX.out.size _).grown hgrow3 hz1 (fun q hq => (HO0.out.1.lt q hq).1); have hown4 : OwnG (IsIntK .u8) w3 w.heap.size 5 1 v3 p ((payL L).map (Value.int .u8)) := (by rw [show 0 + (6 + p - 6) = p by omega] at hown3; exact hown3); obtain ⟨A', cap', rfl⟩ := hown4.slice)
      go_meet
      exact ⟨A', cap', rfl, hown4, hb3⟩
  case rest =>
  obtain ⟨A', cap', rfl, hown, hbz⟩ := hcut
  obtain ⟨wz, rfl⟩ : ∃ wq : World, wq = wc := ⟨_, rfl⟩
  have HOW := Lib.hid hown
  have HBZ := Lib.hid hbz
  have h2 := (hbz.cell (p := ⟨bb, off + 2, none⟩) hbb).trans (HCL.out 2 (by rw [HN.out]; omega))
  have h3 := (hbz.cell (p := ⟨bb, off + 3, none⟩) hbb).trans (HCL.out 3 (by rw [HN.out]; omega))
  have h4 := (hbz.cell (p := ⟨bb, off + 4, none⟩) hbb).trans (HCL.out 4 (by rw [HN.out]; omega))
  have h5 := (hbz.cell (p := ⟨bb, off + 5, none⟩) hbb).trans (HCL.out 5 (by rw [HN.out]; omega))
  have hbl : bb < wz.heap.size := Nat.lt_of_lt_of_le hbb hbz.size
  have HSB := Lib.hid (show bits .or .u32 (bits .or .u32 (bits .or .u32 (L.getD 2 0 * 16777216) (L.getD 3 0 * 65536)) (L.getD 4 0 * 256)) (L.getD 5 0) = sumB L from or_u32 _ _ _ _ (getD_u8 HL.out 2) (getD_u8 HL.out 3) (getD_u8 HL.out 4) (getD_u8 HL.out 5))
  obtain ⟨a2, b2⟩ := getD_u8 HL.out 2
  obtain ⟨a3, b3⟩ := getD_u8 HL.out 3
  obtain ⟨a4, b4⟩ := getD_u8 HL.out 4
  obtain ⟨a5, b5⟩ := getD_u8 HL.out 5
  obtain ⟨x2, hx2⟩ : ∃ x, x = L.getD 2 0 := ⟨_, rfl⟩
  obtain ⟨x3, hx3⟩ : ∃ x, x = L.getD 3 0 := ⟨_, rfl⟩
  obtain ⟨x4, hx4⟩ : ∃ x, x = L.getD 4 0 := ⟨_, rfl⟩
  obtain ⟨x5, hx5⟩ : ∃ x, x = L.getD 5 0 := ⟨_, rfl⟩
  rw [← hx2] at h2 HSB a2 b2
  rw [← hx3] at h3 HSB a3 b3
  rw [← hx4] at h4 HSB a4 b4
  rw [← hx5] at h5 HSB a5 b5
  have k2' : 2 < n := by omega
  have j2 : (2 : Int) < (n : Int) := by omega
  have j3 : (3 : Int) < (n : Int) := by omega
  have j4 : (4 : Int) < (n : Int) := by omega
  have j5 : (5 : Int) < (n : Int) := by omega
  have k3' : 3 < n := by omega
  have k4' : 4 < n := by omega
  have k5' : 5 < n := by omega
  have HSW := Lib.hid (show bits .or .u32 (bits .or .u32 (bits .or .u32 (IntKind.u32.wrap (IntKind.u32.wrap x2 * 16777216)) (IntKind.u32.wrap (IntKind.u32.wrap x3 * 65536))) (IntKind.u32.wrap (IntKind.u32.wrap x4 * 256))) (IntKind.u32.wrap x5) = sumB L by
    rw [wraps_u32 x2 (by omega) (by omega), wraps_u32 x3 (by omega) (by omega), wraps_u32 x4 (by omega) (by omega), wraps_u32 x5 (by omega) (by omega), wraps_u32 (x2 * 16777216) (by omega) (by omega), wraps_u32 (x3 * 65536) (by omega) (by omega), wraps_u32 (x4 * 256) (by omega) (by omega)]
    exact HSB.out)
  obtain ⟨q, hq⟩ : ∃ q, q = (sumB L != sumL (payL L)) := ⟨_, rfl⟩
  have HQ := Lib.hid hq
  clear hown hbz hx2 hx3 hx4 hx5 hax hq HO0 hz1 HBX
  go_upto_region 9 with fail
  go_cut [59] (fun s59 wy => s59 = .bool q ∧ Below wz.heap.size wz wy)
  case first =>
    go_region_held3 (fun w' => w'.cell? ⟨bb, off + 2, none⟩ = some (.int .u8 x2) ∧ w'.cell? ⟨bb, off + 3, none⟩ = some (.int .u8 x3) ∧ w'.cell? ⟨bb, off + 4, none⟩ = some (.int .u8 x4) ∧ w'.cell? ⟨bb, off + 5, none⟩ = some (.int .u8 x5) ∧ Below wz.heap.size wz w')
      (first
        | exact ⟨h2, h3, h4, h5, (Below.refl _ _).drew⟩
        | (go_split_ands; refine ⟨(hb.cell (p := ⟨bb, off + 2, none⟩) (Nat.lt_of_lt_of_le hbl (Below.size (by assumption)))).trans (by assumption), (hb.cell (p := ⟨bb, off + 3, none⟩) (Nat.lt_of_lt_of_le hbl (Below.size (by assumption)))).trans (by assumption), (hb.cell (p := ⟨bb, off + 4, none⟩) (Nat.lt_of_lt_of_le hbl (Below.size (by assumption)))).trans (by assumption), (hb.cell (p := ⟨bb, off + 5, none⟩) (Nat.lt_of_lt_of_le hbl (Below.size (by assumption)))).trans (by assumption), Below.trans (by assumption) (hb.mono (Below.size (by assumption)))⟩))
      (first
        | (go_at_call 25; (try go_split_ands); (with_reducible refine (sum_at _ p cap' (payL L) _ HPL.out ((own_ints HOW.out).below ((Below.refl _ _).drew) (Nat.le_refl _)) HPU.out (by omega)).mono ?_); rintro e w' ⟨rfl, hb⟩; have hk : Below wz.heap.size wz w' := (by first | exact hk.trans (hb.mono hk.size) | exact (Below.refl _ _).drew.trans hb)))
    go_wp2_with fail
    go_meet
    go_split_ands
    exact ⟨by rw [HQ.out, HSW.out], by assumption⟩
  case rest =>
  obtain ⟨rfl, hby⟩ := hcut
  obtain ⟨wy, rfl⟩ : ∃ wq : World, wq = wc := ⟨_, rfl⟩
  have HBY := Lib.hid (HBZ.out.trans (hby.mono HBZ.out.size))
  have HOY := Lib.hid (HOW.out.below hby)
  clear hby h2 h3 h4 h5 a2 b2 a3 b3 a4 b4 a5 b5
  cases q
  · have heq : sumB L = sumL (payL L) := by have := HQ.out; simpa using this.symm
    have HG2 := Lib.hid (show getTo L = (payL L, 6 + (p : Int), 0) by rw [HG.out, if_neg (by omega), if_neg c1, if_neg c2, if_pos heq])
    clear heq
    go_wp2_with fail
    refine bodyPost_ret (v := .tuple #[.slice A' p cap', .int .i64 (6 + (p : Int)), .int .i64 0]) ?_ rfl (by rw [HR.out, HG2.out]; exact ⟨A', cap', by rw [HPL.out], rfl, by rw [HPL.out]; exact HOY.out, HBY.out⟩)
    simp [results, Try.results12, go_sem]
  · have heq : ¬ sumB L = sumL (payL L) := by have := HQ.out; simpa using this.symm
    have HG2 := Lib.hid (show getTo L = ([], 0, 5) by rw [HG.out, if_neg (by omega), if_neg c1, if_neg c2, if_neg heq])
    clear heq
    go_wp2_with fail
    refine bodyPost_ret (v := .tuple #[.slice none 0 0, .int .i64 0, .int .i64 5]) ?_ rfl (by rw [HR.out, HG2.out]; exact getBack_nil rfl HBY.out)
    simp [results, Try.results12, go_sem]
end Go.Proofs.Ytjpbmapnagkonaa
