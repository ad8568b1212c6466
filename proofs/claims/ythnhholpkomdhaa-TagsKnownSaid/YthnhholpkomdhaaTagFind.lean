/-
  What is proved here: where a name is found in a list; tags held against each other (chapter 9). Conditions: each theorem's own.
-/
import Derived.Test.YthnhholpkomdhaaTagAll
import Derived.Deep.QuietTactic
import Derived.BigQuiet
namespace Go.Proofs.Ythnhholpkomdhaa
open Go.RowKit Go.Deep
attribute [local go_sem ↓ high] loadTag_eq storeTag_eq
attribute [local go_sem] run_storeTag_new run_loadTag_new

/-- where a name is; -1: nowhere. -/
def findOf (L : List Tag) (g : ByteArray) : Int :=
  match (List.range L.length).find? (fun i => sEq (L.getD i t0).g g) with
  | some i => (i : Int)
  | none => -1
theorem findOf_at {L : List Tag} {g : ByteArray} {k : Nat} (hk : k < L.length) (hj : ∀ j, j < k → sEq (L.getD j t0).g g = false) (he : sEq (L.getD k t0).g g = true) : findOf L g = (k : Int) := by
  unfold findOf
  rw [find_range hk he hj]
theorem findOf_none {L : List Tag} {g : ByteArray} (hj : ∀ j, j < L.length → sEq (L.getD j t0).g g = false) : findOf L g = -1 := by
  unfold findOf
  rw [List.find?_eq_none.2 (fun j hlt => by rw [hj j (List.mem_range.1 hlt)]; simp)]
theorem find_8 (A : Option Addr) (ca : Nat) (L : List Tag) (g : ByteArray) (w : World) (hA : TagsAt w A L) (hlen : L.length ≤ 9223372036854775807) :
    Calls Try.prog 19 #[.slice A L.length ca, .string g] w fun e w' => e = .returned (.int .i64 (findOf L g)) ∧ w' = w := by
  have HA := Lib.hid hA
  clear hA
  go_enter Try.func19, Try.ntmps19
  go_wp2_with fail
  go_loopg [8] L.length (fun gg i wr => ∃ k : Nat, k ≤ L.length ∧ gg = L.length - k ∧ i = .int .i64 k ∧ (∀ j, j < k → sEq (L.getD j t0).g g = false) ∧ wr = w)
  case atStart => exact ⟨0, Nat.zero_le _, rfl, rfl, fun j hj => absurd hj (by omega), rfl⟩
  case round =>
    obtain ⟨k, hk, rfl, rfl, hfine, rfl⟩ := hrel
    have HF := Lib.hid hfine
    clear hfine
    by_cases hlt : k < L.length
    · obtain ⟨b, off, rfl, hb, hr⟩ := HA.out (by omega)
      have c0 := range_name (hr k hlt)
      clear hr
      obtain ⟨x, hx⟩ : ∃ x, x = (L.getD k t0).g := ⟨_, rfl⟩
      rw [← hx] at c0
      have HX := Lib.hid hx
      clear hx
      have hki : (k : Int) < (L.length : Int) := by omega
      have hk0 : (0 : Int) ≤ (k : Int) := by omega
      obtain ⟨q, hq⟩ : ∃ q, q = sEq x g := ⟨_, rfl⟩
      have hq' : (x.toList == g.toList) = q := hq.symm
      have HQ := Lib.hid (show sEq (L.getD k t0).g g = q by rw [← HX.out, hq])
      clear hq
      cases q
      · go_wp2_with fail
        go_roundg (L.length - (k + 1))
        case measure => omega
        case rel =>
          refine ⟨k + 1, by omega, rfl, by go_num, fun j hj => ?_, rfl⟩
          by_cases e : j = k
          · rw [e]; exact HQ.out
          · exact HF.out j (by omega)
      · have HD := Lib.hid (findOf_at hlt HF.out HQ.out)
        go_wp2_with fail
        go_ret
        exact ⟨ret_int HD.out.symm, rfl⟩
    · obtain rfl : k = L.length := by omega
      have hki : ¬ (L.length : Int) < (L.length : Int) := by omega
      have HD := Lib.hid (findOf_none HF.out)
      go_wp2_with fail
      go_ret
      exact ⟨ret_int HD.out.symm, rfl⟩
theorem find_5 (A : Option Addr) (ca : Nat) (L : List Tag) (g : ByteArray) (w : World) (hA : TagsAt w A L) (hlen : L.length ≤ 9223372036854775807) :
    Calls Try.prog 20 #[.slice A L.length ca, .string g] w fun e w' => e = .returned (.int .i64 (findOf L g)) ∧ w' = w := by
  have HA := Lib.hid hA
  clear hA
  go_enter Try.func20, Try.ntmps20
  go_wp2_with fail
  go_loopg [5] L.length (fun gg i wr => ∃ k : Nat, k ≤ L.length ∧ gg = L.length - k ∧ i = .int .i64 k ∧ (∀ j, j < k → sEq (L.getD j t0).g g = false) ∧ wr = w)
  case atStart => exact ⟨0, Nat.zero_le _, rfl, rfl, fun j hj => absurd hj (by omega), rfl⟩
  case round =>
    obtain ⟨k, hk, rfl, rfl, hfine, rfl⟩ := hrel
    have HF := Lib.hid hfine
    clear hfine
    by_cases hlt : k < L.length
    · obtain ⟨b, off, rfl, hb, hr⟩ := HA.out (by omega)
      have c0 := range_name (hr k hlt)
      clear hr
      obtain ⟨x, hx⟩ : ∃ x, x = (L.getD k t0).g := ⟨_, rfl⟩
      rw [← hx] at c0
      have HX := Lib.hid hx
      clear hx
      have hki : (k : Int) < (L.length : Int) := by omega
      have hk0 : (0 : Int) ≤ (k : Int) := by omega
      obtain ⟨q, hq⟩ : ∃ q, q = sEq x g := ⟨_, rfl⟩
      have hq' : (x.toList == g.toList) = q := hq.symm
      have HQ := Lib.hid (show sEq (L.getD k t0).g g = q by rw [← HX.out, hq])
      clear hq
      cases q
      · go_wp2_with fail
        go_roundg (L.length - (k + 1))
        case measure => omega
        case rel =>
          refine ⟨k + 1, by omega, rfl, by go_num, fun j hj => ?_, rfl⟩
          by_cases e : j = k
          · rw [e]; exact HQ.out
          · exact HF.out j (by omega)
      · have HD := Lib.hid (findOf_at hlt HF.out HQ.out)
        go_wp2_with fail
        go_ret
        exact ⟨ret_int HD.out.symm, rfl⟩
    · obtain rfl : k = L.length := by omega
      have hki : ¬ (L.length : Int) < (L.length : Int) := by omega
      have HD := Lib.hid (findOf_none HF.out)
      go_wp2_with fail
      go_ret
      exact ⟨ret_int HD.out.symm, rfl⟩

theorem tagH : Try.prog.stoodInHeld 29 = false := by kernel_rfl
theorem bandT9 : Try.prog.underlying 25 = some (.struct (Try.prog.fieldsOf 25)) := by kernel_rfl
theorem bandH9 : Try.prog.stoodInHeld 25 = false := by kernel_rfl
theorem limT9 : Try.prog.underlying 27 = some (.struct (Try.prog.fieldsOf 27)) := by kernel_rfl
theorem limH9 : Try.prog.stoodInHeld 27 = false := by kernel_rfl
theorem ne_self (x : Tag) (w : World) : (binOp .neq 29 (.agg x.cells) (.agg x.cells)).run Try.prog w = .ok (.bool false) w := by
  rw [run_neq_struct, run_equalIn_agg _ _ _ _ _ tagU tagH]
  simp [go_sem, Tag.cells]
end Go.Proofs.Ythnhholpkomdhaa
