/-
  What is proved here: a number laid in eight bytes behind others, as the reference lays it (chapter 11). Conditions: each theorem's own.
-/
import Derived.Test.YtognidoohinipaaRecEight
namespace Go.Proofs.Ytognidoohinipaa
open Go.RowKit Go.Deep Go.Joins Go.WideShapes

theorem wrap_u64 (x : Int) : IntKind.u64.wrap x = x % 18446744073709551616 := by simp [IntKind.wrap, IntKind.bits, IntKind.signed]
theorem be8_wrap (x : Int) {j : Nat} (h : j < 8) : IntKind.u64.wrap x / 2 ^ (8 * (7 - j)) % 256 = x / 2 ^ (56 - 8 * j) % 256 := by
  rw [wrap_u64]
  have : j = 0 ∨ j = 1 ∨ j = 2 ∨ j = 3 ∨ j = 4 ∨ j = 5 ∨ j = 6 ∨ j = 7 := by omega
  rcases this with rfl | rfl | rfl | rfl | rfl | rfl | rfl | rfl
  all_goals
    simp only [Nat.reduceMul, Nat.reduceSub, Int.reducePow]
    omega

set_option maxRecDepth 100000 in
set_option maxHeartbeats 1000000 in
theorem reight_any (A : Option Addr) (n c base : Nat) (L : List Int) (x : Int) (w : World) (hown : OwnG Tr w base 5 1 (.slice A n c) n (L.map (Value.int .u8))) (hbase : base ≤ w.heap.size) (hn : n ≤ 1000) :
    Calls Try.prog 22 #[.slice A n c, .int .i64 x] w (EightBack base (n + 8) (L ++ be8 x) w) := by
  have HOW := Lib.hid hown
  obtain ⟨i0, hi0, hz0, hz1, hz2⟩ := info_parts Bytes.infoE
  have HI0 := Lib.hid hi0
  have HZ0 := Lib.hid hz0
  have HZ1 := Lib.hid hz1
  have HZ2 := Lib.hid hz2
  clear hi0 hz0 hz1 hz2 hown
  go_enter Try.func22, Try.ntmps22
  go_wp2
  go_loopg [0, 6] 8 (fun g bv iv wr => ∃ (j cj : Nat) (Y : Option Addr), j ≤ 8 ∧ g = 8 - j ∧ iv = .int .i64 (7 - (j : Int)) ∧ bv = .slice Y (n + j) cj ∧ OwnG Tr wr base 5 1 (.slice Y (n + j) cj) (n + j) ((L ++ (be8 x).take j).map (Value.int .u8)) ∧ Below base w wr ∧ Keeps 5 w wr)
  case atStart => exact ⟨0, c, A, by omega, rfl, rfl, rfl, by simpa using HOW.out, Below.refl _ _, Keeps.refl _ _⟩
  case round =>
    clear HOW
    obtain ⟨j, cj, Y, hj, rfl, rfl, rfl, hown, hbw, hkw⟩ := hrel
    obtain ⟨wz, rfl⟩ : ∃ wq : World, wq = wr := ⟨_, rfl⟩
    have HOW := Lib.hid hown
    have HBW := Lib.hid hbw
    have HKW := Lib.hid hkw
    have hzz : base ≤ wz.heap.size := by have := hbw.size; omega
    clear hown hbw hkw
    by_cases hjl : j < 8
    · have t1 : (0 : Int) ≤ 7 - (j : Int) := by omega
      have k3 : n + j + 1 ≤ maxLen := by unfold maxLen; omega
      have k4 : (n + j + 1) * 1 ≤ 140737488355328 := by omega
      obtain ⟨z, hz⟩ : ∃ z, z = IntKind.u64.wrap x / 2 ^ (8 * (7 - j)) % 256 := ⟨_, rfl⟩
      have hsn := be8_snoc x hjl
      rw [← be8_wrap x hjl, ← hz] at hsn
      have HSN := Lib.hid (show L ++ (be8 x).take (j + 1) = (L ++ (be8 x).take j) ++ [z] by rw [hsn, List.append_assoc])
      have HOA := Lib.hid (HOW.out.alloc (.cells #[.int .u8 z] 5))
      have hza : base ≤ (wz.alloc (.cells #[.int .u8 z] 5)).heap.size := by simp; omega
      have HBA := Lib.hid (HBW.out.alloc hzz (.cells #[.int .u8 z] 5))
      have HKA := Lib.hid (HKW.out.alloc (.cells #[.int .u8 z] 5))
      have HN1 := Lib.hid (ints_one .u8 z)
      clear hsn
      rw [hz] at *
      clear hz
      go_wp2_with (at_builtin; refine wpList_append_G _ rfl (.tmp 13) (.tmp 20) 24 rfl Tr base 5 i0 _ 1 1 Try.underlying24 HI0.out HZ0.out HZ1.out HZ2.out rfl (by omega) _ (n + j) _ rfl HOA.out ⟨wz.heap.size, 0, none⟩ 1 1 [.int .u8 (IntKind.u64.wrap x / 2 ^ (8 * (7 - j)) % 256)] rfl rfl (World.news_of_block (cs := #[.int .u8 (IntKind.u64.wrap x / 2 ^ (8 * (7 - j)) % 256)]) (t := 5) (fr := (0, 0)) (heap_alloc_new wz _)) HN1.out.1 k3 k4 hza (tr_all _) (tr_all _) (tr_all _) ?_; intro v3 w3 hown3 hgrow; have hb3 : Below base w w3 := HBA.out.grown hgrow hza (fun q hq => (HOA.out.1.lt q hq).1); have hk3 : Keeps 5 w w3 := HKA.out.trans (Keeps.grown HOA.out hgrow); obtain ⟨A3, k3', rfl⟩ := hown3.slice)
      have HO3 := Lib.hid (show OwnG Tr w3 base 5 1 (.slice A3 (n + j + 1) k3') (n + j + 1) ((L ++ (be8 x).take (j + 1)).map (Value.int .u8)) by rw [HSN.out, List.map_append]; exact hown3)
      clear hown3 hgrow
      go_roundg (8 - (j + 1))
      case measure => omega
      case rel => exact ⟨j + 1, k3', A3, by omega, rfl, by go_num, rfl, HO3.out, hb3, hk3⟩
    · obtain rfl : j = 8 := by omega
      rw [show (be8 x).take 8 = be8 x from List.take_of_length_le (Nat.le_of_eq (be8_len x))] at HOW
      have t1 : ¬ (0 : Int) ≤ 7 - ((8 : Nat) : Int) := by omega
      go_wp2_with fail
      go_ret
      exact ⟨Y, cj, rfl, HOW.out, HBW.out, HKW.out⟩
end Go.Proofs.Ytognidoohinipaa
