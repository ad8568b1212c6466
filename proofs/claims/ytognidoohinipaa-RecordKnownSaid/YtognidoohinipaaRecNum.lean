/-
  What is proved here: the number that stands in the next eight bytes, as Get of package record reads it (chapter 11). Conditions: bytes are bytes.
-/
import Derived.Test.YtognidoohinipaaRecGetLaws
namespace Go.Proofs.Ytognidoohinipaa
open Go.RowKit Go.Deep Go.Joins Go.WideShapes

set_option maxRecDepth 100000 in
set_option maxHeartbeats 1000000 in
theorem num_short (B br bs : Nat) (M : List Int) (s : Bool) (w : World) (hr : Rest w B br M) (hs : Blk w bs 4 #[.bool s]) (hne : br ≠ bs) (h2 : B ≤ bs) (h8 : M.length < 8) :
    Calls Try.prog 30 #[.pointer (some ⟨br, 0, none⟩), .pointer (some ⟨bs, 0, none⟩)] w (NumBack w B br bs M s) := by
  have HE := Lib.hid (show numL M s = (0, M, true) from if_pos h8)
  have HR := Lib.hid hr
  have HS := Lib.hid hs
  obtain ⟨b, off, cap, hb, _, _⟩ := hr
  have c0 := hb.one.1
  have s0 := hs.one.1
  have f0 := hs.one.2
  have l0 := hb.lt
  have l1 := hs.lt
  have t1 : (M.length : Int) < 8 := by omega
  have HO := Lib.hid (Only2.set2 w br bs 0 (.bool true))
  have HS2 := Lib.hid (hs.set_ 0 (.bool true))
  have HR2 := Lib.hid (HR.out.far h2 hne 0 (.bool true))
  clear hb hs
  go_enter Try.func30, Try.ntmps30
  go_wp2
  go_ret
  exact ⟨by rw [HE.out]; rfl, by rw [HE.out]; exact HR2.out, by rw [HE.out]; exact HS2.out, HO.out⟩
theorem getD_drop (M : List Int) (a i : Nat) : (M.drop a).getD i 0 = M.getD (a + i) 0 := by simp [List.getD_eq_getElem?_getD, List.getElem?_drop]

set_option maxRecDepth 100000 in
set_option maxHeartbeats 1000000 in
theorem num_long (B br bs : Nat) (M : List Int) (s : Bool) (w : World) (hr : Rest w B br M) (hs : Blk w bs 4 #[.bool s]) (hne : br ≠ bs) (h1 : B ≤ br) (h8 : 8 ≤ M.length) (hM : ∀ x ∈ M, U8 x) (hml : M.length ≤ 140737488351232) :
    Calls Try.prog 30 #[.pointer (some ⟨br, 0, none⟩), .pointer (some ⟨bs, 0, none⟩)] w (NumBack w B br bs M s) := by
  have HE := Lib.hid (show numL M s = (val8 M, M.drop 8, s) from if_neg (by omega))
  have HV := Lib.hid (show val8 M = IntKind.i64.wrap (numB (M.take 8)) from rfl)
  have HM := Lib.hid hM
  have HS := Lib.hid hs
  obtain ⟨b, off, cap, hb, hlc, hc⟩ := hr
  obtain ⟨hbB, hcc⟩ := hc (by omega)
  have c0 := hb.one.1
  have f0 := hb.one.2
  have l0 := hb.lt
  have HCC := Lib.hid hcc
  have HB := Lib.hid hb
  obtain ⟨n, hn⟩ : ∃ n, n = M.length := ⟨_, rfl⟩
  have HN := Lib.hid hn.symm
  rw [← hn] at c0 h8 hlc hml
  have t1 : ¬ (n : Int) < 8 := by omega
  have t2 : (8 : Int) ≤ (cap : Int) := by omega
  have t3 : (8 : Int) ≤ (n : Int) := by omega
  clear hb hc hcc hM hs hn
  go_enter Try.func30, Try.ntmps30
  go_wp2
  go_loopg [3, 12] 8 (fun g vv iv wr => ∃ j : Nat, j ≤ 8 ∧ g = 8 - j ∧ iv = .int .i64 j ∧ vv = .int .u64 (numB (M.take j)) ∧ w = wr)
  case atStart => exact ⟨0, by omega, rfl, rfl, rfl, rfl⟩
  case round =>
    obtain ⟨j, hj, rfl, rfl, rfl, rfl⟩ := hrel
    by_cases hjl : j < 8
    · have hji : (j : Int) < 8 := by omega
      have hj0 : (0 : Int) ≤ (j : Int) := by omega
      have g1 := HCC.out j (by rw [HN.out]; omega)
      obtain ⟨u1, u2⟩ := getD_u8 HM.out j
      have hsn : numB (M.take (j + 1)) = numB (M.take j) * 256 + M.getD j 0 := by rw [take_snoc_int _ _ (by rw [HN.out]; omega), numB_snoc]
      obtain ⟨v1, v2⟩ := numB_small HM.out (j := j) (by rw [HN.out]; omega) (by omega)
      obtain ⟨x, hx⟩ : ∃ x, x = M.getD j 0 := ⟨_, rfl⟩
      obtain ⟨v, hv⟩ : ∃ v, v = numB (M.take j) := ⟨_, rfl⟩
      rw [← hx] at g1 u1 u2 hsn
      rw [← hv] at v1 v2 hsn ⊢
      have HSN := Lib.hid hsn
      have HOR := Lib.hid (or_u64 v1 v2 u1 u2)
      clear hx hv hsn
      go_wp2
      go_roundg (8 - (j + 1))
      case measure => omega
      case rel => exact ⟨j + 1, by omega, rfl, by go_num, by rw [HSN.out, HOR.out], rfl⟩
    · obtain rfl : j = 8 := by omega
      obtain ⟨v, hv⟩ : ∃ v, v = numB (M.take 8) := ⟨_, rfl⟩
      rw [← hv] at HV ⊢
      have HDL := Lib.hid (show (M.drop 8).length = n - 8 by rw [List.length_drop, HN.out])
      clear hv
      by_cases hc8 : cap = 8
      · have n8 : n = 8 := by omega
        subst hc8
        have HO := Lib.hid (Only2.set1 w br bs 0 (.slice (some ⟨b, off, none⟩) 0 0))
        have HB2 := Lib.hid (HB.out.set_ 0 (.slice (some ⟨b, off, none⟩) 0 0))
        have HS2 := Lib.hid (HS.out.far (p := ⟨br, 0, none⟩) (fun e => hne e.symm) (.slice (some ⟨b, off, none⟩) 0 0))
        go_wp2
        go_ret
        refine ⟨ret_int (by rw [HE.out, HV.out]; exact (IntWalk.i64_left v).symm), ?_, by rw [HE.out]; exact HS2.out, HO.out⟩
        rw [HE.out]
        exact ⟨b, off, 0, by rw [HDL.out, n8]; exact HB2.out, by rw [HDL.out]; omega, fun hp => absurd hp (by rw [HDL.out]; omega)⟩
      · have HO := Lib.hid (Only2.set1 w br bs 0 (.slice (some ⟨b, off + 8, none⟩) (n - 8) (cap - 8)))
        have HB2 := Lib.hid (HB.out.set_ 0 (.slice (some ⟨b, off + 8, none⟩) (n - 8) (cap - 8)))
        have HS2 := Lib.hid (HS.out.far (p := ⟨br, 0, none⟩) (fun e => hne e.symm) (.slice (some ⟨b, off + 8, none⟩) (n - 8) (cap - 8)))
        go_wp2
        go_ret
        refine ⟨ret_int (by rw [HE.out, HV.out]; exact (IntWalk.i64_left v).symm), ?_, by rw [HE.out]; exact HS2.out, HO.out⟩
        rw [HE.out]
        refine ⟨b, off + 8, cap - 8, by rw [HDL.out]; exact HB2.out, by rw [HDL.out]; omega, fun _ => ⟨hbB, fun i hi => ?_⟩⟩
        rw [HDL.out] at hi
        rw [getD_drop, Nat.add_assoc]
        exact (World.cell?_of_block (a := ⟨b, off + (8 + i), none⟩) (Below.heap_setCell w ⟨br, 0, none⟩ _ b (by show b ≠ br; omega))).trans (HCC.out (8 + i) (by rw [HN.out]; omega))
theorem num_any (B br bs : Nat) (M : List Int) (s : Bool) (w : World) (hr : Rest w B br M) (hs : Blk w bs 4 #[.bool s]) (hne : br ≠ bs) (h1 : B ≤ br) (h2 : B ≤ bs) (hM : ∀ x ∈ M, U8 x) (hml : M.length ≤ 140737488351232) :
    Calls Try.prog 30 #[.pointer (some ⟨br, 0, none⟩), .pointer (some ⟨bs, 0, none⟩)] w (NumBack w B br bs M s) := by
  by_cases h8 : M.length < 8
  · exact num_short B br bs M s w hr hs hne h2 h8
  · exact num_long B br bs M s w hr hs hne h1 (by omega) hM hml
end Go.Proofs.Ytognidoohinipaa
