/-
  What is proved here: the parts of the reference's Get; what a record is that is read from bytes, by their number (chapter 11). Conditions: bytes are bytes.
-/
import Derived.Test.YtognidoohinipaaRecGet2
namespace Go.Proofs.Ytognidoohinipaa
open Go.RowKit Go.Deep Go.Joins Go.WideShapes

set_option maxRecDepth 100000 in
set_option maxHeartbeats 1000000 in
theorem at_any (b off n cap i : Nat) (L : List Int) (w : World) (hln : L.length = n) (hA : IntsAt .u8 w (some ⟨b, off, none⟩) L) (hL : ∀ x ∈ L, U8 x) (hi : i + 8 ≤ n) (hn : n ≤ 140737488351232) :
    Calls Try.prog 32 #[.slice (some ⟨b, off, none⟩) n cap, .int .i64 i] w fun e w' => e = .returned (.int .i64 (val8 (L.drop i))) ∧ w = w' := by
  obtain ⟨b', off', e', hbb, hcell⟩ := hA (by omega)
  cases e'
  have hM : ∀ x ∈ L.drop i, U8 x := fun x hx => hL x (List.mem_of_mem_drop hx)
  have HM := Lib.hid hM
  have HC := Lib.hid hcell
  have HN := Lib.hid hln
  have HDL := Lib.hid (show (L.drop i).length = n - i by rw [List.length_drop, hln])
  have HV := Lib.hid (show val8 (L.drop i) = IntKind.i64.wrap (numB ((L.drop i).take 8)) from rfl)
  clear hM hcell hln hA hL
  go_enter Try.func32, Try.ntmps32
  go_wp2
  go_loopg [5, 6] 8 (fun g vv iv wr => ∃ j : Nat, j ≤ 8 ∧ g = 8 - j ∧ iv = .int .i64 j ∧ vv = .int .u64 (numB ((L.drop i).take j)) ∧ w = wr)
  case atStart => exact ⟨0, by omega, rfl, rfl, rfl, rfl⟩
  case round =>
    obtain ⟨j, hj, rfl, rfl, rfl, rfl⟩ := hrel
    by_cases hjl : j < 8
    · have hji : (j : Int) < 8 := by omega
      have hj0 : (0 : Int) ≤ (j : Int) := by omega
      have g1 := HC.out (i + j) (by rw [HN.out]; omega)
      obtain ⟨u1, u2⟩ := getD_u8 HM.out j
      have hsn : numB ((L.drop i).take (j + 1)) = numB ((L.drop i).take j) * 256 + (L.drop i).getD j 0 := by rw [take_snoc_int _ _ (by rw [HDL.out]; omega), numB_snoc]
      obtain ⟨v1, v2⟩ := numB_small HM.out (j := j) (by rw [HDL.out]; omega) (by omega)
      rw [getD_drop] at u1 u2 hsn
      obtain ⟨x, hx⟩ : ∃ x, x = L.getD (i + j) 0 := ⟨_, rfl⟩
      obtain ⟨v, hv⟩ : ∃ v, v = numB ((L.drop i).take j) := ⟨_, rfl⟩
      rw [← hx] at g1 u1 u2 hsn
      rw [← hv] at v1 v2 hsn ⊢
      have HSN := Lib.hid hsn
      have k1 : (i : Int) + (j : Int) < (n : Int) := by omega
      have k0 : (0 : Int) ≤ (i : Int) + (j : Int) := by omega
      have k2 : i + j < n := by omega
      clear hx hv hsn
      go_wp2
      go_roundg (8 - (j + 1))
      case measure => omega
      case rel => exact ⟨j + 1, by omega, rfl, by go_num, by rw [HSN.out], rfl⟩
    · obtain rfl : j = 8 := by omega
      obtain ⟨v, hv⟩ : ∃ v, v = numB ((L.drop i).take 8) := ⟨_, rfl⟩
      rw [← hv] at HV ⊢
      clear hv
      go_wp2
      go_ret
      exact ⟨ret_int (by rw [HV.out]; exact (IntWalk.i64_left v).symm), rfl⟩

theorem numL_short {M : List Int} (s : Bool) (h : M.length < 8) : numL M s = (0, M, true) := if_pos h
theorem numL_long {M : List Int} (s : Bool) (h : 8 ≤ M.length) : numL M s = (val8 M, M.drop 8, s) := if_neg (by omega)
theorem numL_true (M : List Int) : (numL M true).2.2 = true := by unfold numL; split <;> rfl
theorem finL_true (M : List Int) (r : Rec) : finL M true r = (zeroR, 1) := if_pos rfl
theorem finL_more {M : List Int} (r : Rec) (h : 0 < M.length) : finL M false r = (zeroR, 2) := by unfold finL; rw [if_neg (by decide), if_pos h]
theorem finL_fit {M : List Int} (r : Rec) (h : M.length = 0) : finL M false r = if recErr r = 0 then (r, 0) else (zeroR, recErr r) := by unfold finL; rw [if_neg (by decide), if_neg (by omega)]
def okR (r : Rec) : Rec × Int := if recErr r = 0 then (r, 0) else (zeroR, recErr r)
/-- one number behind the time. -/
theorem getS_one {L : List Int} (f : Int → Int → Rec)
    (hf : ∀ t M s, numL (L.drop 1) false = (t, M, s) → getS L = finL (numL M s).2.1 (numL M s).2.2 (f t (numL M s).1)) :
    (L.length < 17 → getS L = (zeroR, 1)) ∧ (17 < L.length → getS L = (zeroR, 2)) ∧ (L.length = 17 → getS L = okR (f (val8 (L.drop 1)) (val8 (L.drop 9)))) := by
  have hl1 : (L.drop 1).length = L.length - 1 := List.length_drop
  by_cases h1 : (L.drop 1).length < 8
  · have e := hf _ _ _ (numL_short false h1)
    refine ⟨fun _ => ?_, fun h => by omega, fun h => by omega⟩
    rw [e, numL_true, finL_true]
  · have e := hf _ _ _ (numL_long false (by omega))
    have hl2 : ((L.drop 1).drop 8).length = L.length - 9 := by rw [List.length_drop, hl1]; omega
    have hd : (L.drop 1).drop 8 = L.drop 9 := by rw [List.drop_drop]
    by_cases h2 : ((L.drop 1).drop 8).length < 8
    · refine ⟨fun _ => ?_, fun h => by omega, fun h => by omega⟩
      rw [e, numL_short _ h2, finL_true]
    · rw [numL_long _ (by omega)] at e
      dsimp only at e
      have hl3 : (((L.drop 1).drop 8).drop 8).length = L.length - 17 := by rw [List.length_drop, hl2]; omega
      refine ⟨fun h => by omega, fun h => ?_, fun h => ?_⟩
      · rw [e, finL_more _ (by omega)]
      · rw [e, finL_fit _ (by omega), hd]; rfl
/-- two numbers behind the time. -/
theorem getS_two {L : List Int} (f : Int → Int → Int → Rec)
    (hf : ∀ t M s x M2 s2, numL (L.drop 1) false = (t, M, s) → numL M s = (x, M2, s2) → getS L = finL (numL M2 s2).2.1 (numL M2 s2).2.2 (f t x (numL M2 s2).1)) :
    (L.length < 25 → getS L = (zeroR, 1)) ∧ (25 < L.length → getS L = (zeroR, 2)) ∧ (L.length = 25 → getS L = okR (f (val8 (L.drop 1)) (val8 (L.drop 9)) (val8 (L.drop 17)))) := by
  have hl1 : (L.drop 1).length = L.length - 1 := List.length_drop
  by_cases h1 : (L.drop 1).length < 8
  · have e := hf _ _ _ _ _ _ (numL_short false h1) (numL_short _ h1)
    refine ⟨fun _ => ?_, fun h => by omega, fun h => by omega⟩
    rw [e, numL_true, finL_true]
  · have e1 := numL_long (M := L.drop 1) false (by omega)
    have hl2 : ((L.drop 1).drop 8).length = L.length - 9 := by rw [List.length_drop, hl1]; omega
    have hd : (L.drop 1).drop 8 = L.drop 9 := by rw [List.drop_drop]
    by_cases h2 : ((L.drop 1).drop 8).length < 8
    · have e := hf _ _ _ _ _ _ e1 (numL_short _ h2)
      refine ⟨fun _ => ?_, fun h => by omega, fun h => by omega⟩
      rw [e, numL_true, finL_true]
    · have e := hf _ _ _ _ _ _ e1 (numL_long _ (by omega))
      have hl3 : (((L.drop 1).drop 8).drop 8).length = L.length - 17 := by rw [List.length_drop, hl2]; omega
      have hd2 : ((L.drop 1).drop 8).drop 8 = L.drop 17 := by rw [hd, List.drop_drop]
      by_cases h3 : (((L.drop 1).drop 8).drop 8).length < 8
      · refine ⟨fun _ => ?_, fun h => by omega, fun h => by omega⟩
        rw [e, numL_short _ h3, finL_true]
      · rw [numL_long _ (by omega)] at e
        dsimp only at e
        have hl4 : ((((L.drop 1).drop 8).drop 8).drop 8).length = L.length - 25 := by rw [List.length_drop, hl3]; omega
        refine ⟨fun h => by omega, fun h => ?_, fun h => ?_⟩
        · rw [e, finL_more _ (by omega)]
        · rw [e, finL_fit _ (by omega), hd2, hd]; rfl
/-- a text and a number behind the time. -/
theorem getS_tag {L : List Int} (f : Int → ByteArray → Int → Rec)
    (hf : ∀ t M s, numL (L.drop 1) false = (t, M, s) → getS L = if tagL M = true then (zeroR, 1) else finL (numL (M.drop (1 + (M.getD 0 0).toNat)) s).2.1 (numL (M.drop (1 + (M.getD 0 0).toNat)) s).2.2 (f t (mkG ((M.drop 1).take (M.getD 0 0).toNat)) (numL (M.drop (1 + (M.getD 0 0).toNat)) s).1)) :
    (L.length < 10 → getS L = (zeroR, 1)) ∧ ∀ y : Nat, (y : Int) = L.getD 9 0 → 10 ≤ L.length → (L.length < 18 + y → getS L = (zeroR, 1)) ∧ (18 + y < L.length → getS L = (zeroR, 2)) ∧ (L.length = 18 + y → getS L = okR (f (val8 (L.drop 1)) (mkG ((L.drop 10).take y)) (val8 (L.drop (10 + y))))) := by
  have hl1 : (L.drop 1).length = L.length - 1 := List.length_drop
  by_cases h1 : (L.drop 1).length < 8
  · have e := hf _ _ _ (numL_short false h1)
    refine ⟨fun _ => ?_, fun y _ h => by omega⟩
    rw [e]
    split
    · rfl
    · rw [numL_true, finL_true]
  · have e := hf _ _ _ (numL_long (M := L.drop 1) false (by omega))
    have hl2 : ((L.drop 1).drop 8).length = L.length - 9 := by rw [List.length_drop, hl1]; omega
    have hd : (L.drop 1).drop 8 = L.drop 9 := by rw [List.drop_drop]
    rw [hd] at e hl2
    have hg : (L.drop 9).getD 0 0 = L.getD 9 0 := getD_drop L 9 0
    refine ⟨fun h => ?_, fun y hy h10 => ?_⟩
    · rw [e, if_pos]
      exact decide_eq_true (.inl (by omega))
    · rw [hg, ← hy, Int.toNat_natCast] at e
      by_cases hy2 : L.length - 9 < 1 + y
      · refine ⟨fun _ => ?_, fun h => by omega, fun h => by omega⟩
        rw [e, if_pos]
        refine decide_eq_true (.inr ?_)
        rw [hg, ← hy]
        omega
      · rw [if_neg (fun ht => by have := of_decide_eq_true ht; rw [hg, ← hy] at this; omega)] at e
        have hd3 : (L.drop 9).drop (1 + y) = L.drop (10 + y) := by rw [List.drop_drop]; congr 1; omega
        have hd4 : (L.drop 9).drop 1 = L.drop 10 := by rw [List.drop_drop]
        rw [hd3, hd4] at e
        have hl3 : (L.drop (10 + y)).length = L.length - (10 + y) := List.length_drop
        by_cases h3 : (L.drop (10 + y)).length < 8
        · refine ⟨fun _ => ?_, fun h => by omega, fun h => by omega⟩
          rw [e, numL_short _ h3, finL_true]
        · rw [numL_long _ (by omega)] at e
          dsimp only at e
          have hl4 : ((L.drop (10 + y)).drop 8).length = L.length - (18 + y) := by rw [List.length_drop, hl3]; omega
          refine ⟨fun h => by omega, fun h => ?_, fun h => ?_⟩
          · rw [e, finL_more _ (by omega)]
          · rw [e, finL_fit _ (by omega)]; rfl
end Go.Proofs.Ytognidoohinipaa
