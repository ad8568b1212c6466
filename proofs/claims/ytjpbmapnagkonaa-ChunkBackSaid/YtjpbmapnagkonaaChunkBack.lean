/-
  What is proved here: the law ChunkBack returns true for all it is given. Conditions: none.
-/
import Derived.Test.YtjpbmapnagkonaaChkOpen
namespace Go.Proofs.Ytjpbmapnagkonaa
namespace ChunkBack
open Go.ChangeShapes Go.WideShapes Go.ChangeAt Go.RowKit Go.Deep Go.Joins

theorem copy_to (A : Option Addr) (n cap : Nat) (L : List Int) (w : World) (hn : L.length = n) (hA : IntsAt .u8 w A L) (hlen : n ≤ 140737488351232) :
    Calls Try.prog 13 #[.slice A n cap] w fun e w' => ∃ B c, e = .returned (.slice B n c) ∧ OwnG (IsIntK .u8) w' w.heap.size 5 1 (.slice B n c) n (L.map (Value.int .u8)) ∧ Below w.heap.size w w' := by
  subst hn
  refine (Bytes.copy_any A cap L w hA (by omega)).mono ?_
  rintro e w' ⟨v, rfl, ho, hb⟩
  obtain ⟨B, c, rfl⟩ := ho.slice
  exact ⟨B, c, rfl, ho, hb⟩

set_option maxRecDepth 100000 in
set_option maxHeartbeats 4000000 in
theorem walk (A : Option Addr) (cap : Nat) (L : List Int) (B : Option Addr) (cb : Nat) (M : List Int) (w : World) (hA : IntsAt .u8 w A L) (hL : ∀ x ∈ L, U8 x) (hcA : A = none → cap = 0) (hB : IntsAt .u8 w B M) (hM : ∀ x ∈ M, U8 x) (hcB : B = none → cb = 0) :
    Calls Try.prog 3 #[.slice A L.length cap, .slice B M.length cb] w fun e w' => e = .returned (.bool true) ∧ Below w.heap.size w w' := by
  have HA := Lib.hid hA
  have HB := Lib.hid hB
  have HL := Lib.hid hL
  have HM := Lib.hid hM
  have HCA := Lib.hid hcA
  have HCB := Lib.hid hcB
  obtain ⟨n, hn⟩ : ∃ n, n = L.length := ⟨_, rfl⟩
  obtain ⟨m, hm⟩ : ∃ n, n = M.length := ⟨_, rfl⟩
  have HN := Lib.hid hn.symm
  have HMM := Lib.hid hm.symm
  rw [← hn, ← hm]
  clear hA hB hL hM hcA hcB hn hm
  by_cases hbig : 65536 < n ∨ 65536 < m
  · rcases (show 65536 < n ∨ (¬ 65536 < n ∧ 65536 < m) by omega) with h1 | ⟨h1, h2⟩
    · have t1 : (65536 : Int) < (n : Int) := by omega
      clear hbig
      go_enter Try.func3, Try.ntmps3
      go_wp2_with fail
      refine (known_any _).mono ?_
      rintro e w1 ⟨rfl, hb1⟩
      go_wp2
      go_ret
      exact ⟨rfl, hb1⟩
    · have t1 : ¬ (65536 : Int) < (n : Int) := by omega
      have t2 : (65536 : Int) < (m : Int) := by omega
      clear hbig
      go_enter Try.func3, Try.ntmps3
      go_wp2_with fail
      refine (known_any _).mono ?_
      rintro e w1 ⟨rfl, hb1⟩
      go_wp2
      go_ret
      exact ⟨rfl, hb1⟩
  have t1 : ¬ (65536 : Int) < (n : Int) := by omega
  have t2 : ¬ (65536 : Int) < (m : Int) := by omega
  by_cases hlong : 1024 < n
  · have t3 : (1024 : Int) < (n : Int) := by omega
    clear hbig
    go_enter Try.func3, Try.ntmps3
    go_wp2_with fail
    refine (put_long A cap n _ hlong (by omega)).mono ?_
    rintro e w1 ⟨A1, k1, rfl, _, _, hb1⟩
    have B1 := Lib.hid hb1
    clear hb1
    go_wp2_with fail
    refine (known_any _).mono ?_
    rintro e w2 ⟨rfl, hb2⟩
    have HW := Lib.hid (B1.out.trans (hb2.mono B1.out.size))
    clear hb2
    go_wp2_with fail
    go_ret
    exact ⟨rfl, HW.out⟩
  have t3 : ¬ (1024 : Int) < (n : Int) := by omega
  obtain ⟨i0, hi0, hz0, hz1, hz2⟩ := info_parts Bytes.infoE
  have HI0 := Lib.hid hi0
  have HZ0 := Lib.hid hz0
  have HZ1 := Lib.hid hz1
  have HZ2 := Lib.hid hz2
  have HZI := Lib.hid (zero_intK .u8)
  clear hi0 hz0 hz1 hz2 hbig
  go_enter Try.func3, Try.ntmps3
  go_wp2_with fail
  refine (put_any A cap n L _ HN.out HA.out HCA.out HL.out (by omega)).mono ?_
  rintro e w1 ⟨A1, k1, rfl, hpl, ho1, hb1⟩
  have HI1 := Lib.hid (own_ints ho1)
  have HP1 := Lib.hid hpl
  have B1 := Lib.hid hb1
  have HB1 := Lib.hid (HB.out.below hb1 (Nat.le_refl _))
  clear hpl ho1 hb1
  go_wp2_with fail
  refine (copy_to A1 (6 + n) k1 (putL L) _ HP1.out HI1.out (by omega)).mono ?_
  rintro e w2 ⟨A2, k2, rfl, ho2, hb2⟩
  have hz2 := hb2.size
  have HO2 := Lib.hid (show OwnG (IsIntK .u8) w2 w1.heap.size 5 1 (.slice A2 (6 + n) k2) (6 + n) ((putL L).map (Value.int .u8)) from ho2)
  have hnn : B = none → m = 0 ∧ cb = 0 := fun e => ⟨by
    by_cases h0 : 0 < M.length
    · obtain ⟨b, off, e', _, _⟩ := HB.out h0
      rw [e] at e'; cases e'
    · have := HMM.out; omega, HCB.out e⟩
  have HNN := Lib.hid hnn
  have HNW := Lib.hid (ints_news (HB1.out.below hb2 (Nat.le_refl _)))
  have HBB2 := Lib.hid hb2
  have k3 : 6 + n + m ≤ maxLen := by unfold maxLen; omega
  have k4 : (6 + n + m) * 1 ≤ 140737488355328 := by omega
  have k8 : (M.map (Value.int .u8)).length = m * 1 := by rw [List.length_map, HMM.out]; omega
  have K8 := Lib.hid k8
  have HGT := Lib.hid (get_put (M := M) HL.out (by rw [HN.out]; omega))
  rw [HN.out] at HGT
  have HUA := Lib.hid (show ∀ x ∈ putL L ++ M, U8 x from fun x hx => (List.mem_append.1 hx).elim (putL_u8 HL.out (by rw [HN.out]; omega) x) (HM.out x))
  clear hnn k8 ho2 hb2
  go_wp2_with (at_builtin; refine wpList_append_G_any _ rfl (.tmp 39) (.tmp 40) 22 rfl (IsIntK .u8) w1.heap.size 5 i0 _ 1 1 Try.underlying22 HI0.out HZ0.out HZ1.out HZ2.out rfl (by omega) _ (6 + n) _ rfl HO2.out B m cb (M.map (Value.int .u8)) rfl K8.out HNN.out HNW.out (ints_oneCell .u8 _) k3 k4 hz2 HZI.out (ints_all .u8 _) (ints_all .u8 _) ?_; intro v3 w3 hown3 hgrow; have hb3 : Below w1.heap.size w1 w3 := HBB2.out.grown hgrow hz2 (fun q hq => (HO2.out.1.lt q hq).1); obtain ⟨A3, k3', rfl⟩ := hown3.slice)
  rw [← List.map_append] at hown3
  have hcp := own_cap hown3
  have HI3 := Lib.hid (own_ints hown3)
  have HI13 := Lib.hid (HI1.out.below hb3 (Nat.le_refl _))
  have B3 := Lib.hid (B1.out.trans (hb3.mono B1.out.size))
  clear hown3 hgrow hb3 HO2 HNW HBB2
  refine (get_to A3 (6 + n + m) k3' (putL L ++ M) L n (6 + (n : Int)) 0 _ HGT.out HN.out (by rw [List.length_append, HP1.out, HMM.out]) HI3.out HUA.out (by omega) hcp.1).mono ?_
  rintro e w4 ⟨A4, k4', rfl, _, ho4, hb4⟩
  have HR4 := Lib.hid (reads_of_own (k := .u8) (E := 5) (L := L) (by rw [HN.out]; exact ho4))
  have B4 := Lib.hid (B3.out.trans (hb4.mono B3.out.size))
  have HRA := Lib.hid (show Reads .u8 w4 (.slice A n cap) L from ⟨A, cap, by rw [HN.out], HA.out.below B4.out (Nat.le_refl _)⟩)
  clear ho4 hb4
  go_wp2_with fail
  refine (Bytes.same_yes (L := L) HR4.out HRA.out (by rw [HN.out]; omega)).mono ?_
  rintro e w5 ⟨rfl, hb5⟩
  have B5 := Lib.hid (B4.out.trans (hb5.mono B4.out.size))
  clear hb5
  go_wp2_with fail
  refine (known_any _).mono ?_
  rintro e w6 ⟨rfl, hb6⟩
  have HW := Lib.hid (B5.out.trans (hb6.mono B5.out.size))
  clear hb6
  go_wp2_with fail
  go_ret
  exact ⟨rfl, HW.out⟩

theorem own : ownKnob Try.prog.godebug = none := by kernel_rfl

set_option maxRecDepth 100000 in
theorem lifted (os : Os) (started : os.Started) (H : Type) (enc : TypeId × Value → H) :
    ReturnsInHanded {} Try.checked os 3 .any (Rows.chunkBackSpec.pre6 enc Try.prog Try.f3 Rows.chunkBackRow.domain false) (Rows.chunkBackSpec.post enc Try.prog Try.f3 false true false false) := by
  refine law_lifted (C := Try.checked) (tb := 4) own started (by kernel_rfl) Try.func3
    (ChangeSpec.witness6 (enc := enc) (C := Try.checked) false ⟨#[], #[.slice none 0 0, .slice none 0 0], []⟩ 8 (by kernel_rfl) (by kernel_rfl) (by kernel_rfl) (by kernel_rfl))
    rfl (by kernel_rfl) (by kernel_rfl) (by kernel_rfl) Try.underlying4 (fun ds h => ?_) ?_
  · rw [show Try.f3.params = #[22, 22] from Try.params3] at h
    match ds, h with
    | [_, _], _ => rfl
  · intro W base args ds before hval hA hlt hsz
    rw [show Try.f3.params = #[22, 22] from Try.params3] at hA hval hsz
    obtain ⟨v0, vs0, d0, ds0, p0, q0, hargs, rfl, rfl, h0, r0⟩ := trodAll_cons hA
    obtain ⟨v1, vs1, d1, ds1, p1, q1, rfl, rfl, rfl, h1, r1⟩ := trodAll_cons r0
    obtain ⟨rfl, rfl, rfl⟩ := trodAll_nil r1
    obtain rfl : args = #[v0, v1] := by cases args; simp_all
    obtain ⟨A, cap, L, rfl, _, _, iA, iL, icA⟩ := open_bytes (j := 0) (hval 0 _ v0 rfl rfl) h0 hsz rfl rfl
    obtain ⟨B, cb, M, rfl, _, _, iB, iM, icB⟩ := open_bytes (j := 1) (hval 1 _ v1 rfl rfl) h1 hsz rfl rfl
    exact walk A cap L B cb M W iA iL icA iB iM icB

theorem proved : Rows.ChunkBackSaid :=
  OpenClaim.holds_of_wide 3 Try.f3 rfl rfl rfl rfl rfl rfl rfl ⟨rfl, rfl, rfl, rfl, rfl⟩ rfl rfl rfl rfl rfl (by kernel_rfl) Try.func3 (by kernel_rfl)
    (of_decide_eq_true (by kernel_rfl)) (by unfold Func.isWrapper; rw [if_neg (of_decide_eq_false (by kernel_rfl))]; exact ⟨rfl, rfl⟩)
    (fun os started H enc _ => lifted os started H enc)
#print axioms proved
end ChunkBack
end Go.Proofs.Ytjpbmapnagkonaa
