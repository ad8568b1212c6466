/-
  What is proved here: what the sums of 32 bits answer, of package sums and of the reference (chapter 13). Conditions: bytes are bytes.
-/
import Derived.Test.YtjpbmapnagkonaaRows
import Derived.Test.YtjpbmapnagkonaaIntRow
import Derived.Laws.BitsAllLaws
import Derived.BigQuiet
import Derived.Deep.QuietTactic
import Derived.Deep.LoopGhost
import Derived.WalkLawsBesides
import Derived.WalkSpells
import Derived.BigGuardPart
import Derived.RegionTactic
import Derived.Deep.DeepCutAuto
import Derived.IntWalk
namespace Go.Proofs.Ytjpbmapnagkonaa
open Go.RowKit Go.Deep

def U8 (x : Int) : Prop := 0 ≤ x ∧ x ≤ 255
def U32 (x : Int) : Prop := 0 ≤ x ∧ x ≤ 4294967295
def bitI (r : Int) : Int := if r % 2 = 1 then bits .xor .u32 (r / 2) 3988292384 else r / 2
def bitNI : Nat → Int → Int
  | 0, c => c
  | k + 1, c => bitI (bitNI k c)
def runI (c : Int) (L : List Int) : Int := L.foldl (fun c b => bitNI 8 (bits .xor .u32 c b)) c
def moreI (c : Int) (L : List Int) : Int := 4294967295 - runI (4294967295 - c) L
theorem xor_in {a b : Int} (ha : U32 a) (hb : U32 b) : U32 (bits .xor .u32 a b) := by
  unfold U32 at *
  rw [u32_xor a b ha.1 (by omega) hb.1 (by omega)]
  have := Nat.xor_lt_two_pow (n := 32) (show a.toNat < 2 ^ 32 by omega) (show b.toNat < 2 ^ 32 by omega)
  omega
theorem bitI_in {r : Int} (h : U32 r) : U32 (bitI r) := by
  unfold bitI
  have hh : U32 (r / 2) := by unfold U32 at *; omega
  split
  · exact xor_in hh ⟨by decide, by decide⟩
  · exact hh
theorem bitNI_in {r : Int} (h : U32 r) : ∀ k, U32 (bitNI k r)
  | 0 => h
  | k + 1 => bitI_in (bitNI_in h k)
theorem U8.u32 {x : Int} (h : U8 x) : U32 x := ⟨h.1, by have := h.2; omega⟩
theorem runI_in : ∀ (L : List Int) (c : Int), U32 c → (∀ x ∈ L, U8 x) → U32 (runI c L)
  | [], _, h, _ => h
  | b :: L, c, h, hL => runI_in L _ (bitNI_in (xor_in h (hL b (by simp)).u32) 8) (fun x hx => hL x (by simp [hx]))
theorem flip_in {c : Int} (h : U32 c) : U32 (4294967295 - c) := by unfold U32 at *; omega
theorem moreI_in {L : List Int} {c : Int} (h : U32 c) (hL : ∀ x ∈ L, U8 x) : U32 (moreI c L) := flip_in (runI_in L _ (flip_in h) hL)
theorem runI_snoc (c : Int) (L : List Int) (b : Int) : runI c (L ++ [b]) = bitNI 8 (bits .xor .u32 (runI c L) b) := by simp [runI, List.foldl_append]
theorem flip_xor {c : Int} (h : U32 c) : bits .xor .u32 4294967295 c = 4294967295 - c := by
  unfold U32 at h
  rw [u32_xor _ _ (by decide) (by decide) h.1 (by omega)]
  have : (4294967295 : Int).toNat ^^^ c.toNat = 4294967295 - c.toNat := by
    have hc : c.toNat < 2 ^ 32 := by omega
    have e : c.toNat = (BitVec.ofNat 32 c.toNat).toNat := by rw [BitVec.toNat_ofNat, Nat.mod_eq_of_lt hc]
    rw [e]
    show (BitVec.allOnes 32).toNat ^^^ _ = _
    rw [← BitVec.toNat_xor, BitVec.allOnes_xor, BitVec.toNat_not]
  rw [this]
  omega

theorem and_one {r : Int} (h : U32 r) : bits .and .u32 r 1 = r % 2 := by
  unfold U32 at h
  rw [u32_and r 1 h.1 (by omega) (by decide) (by decide)]
  have : r.toNat &&& (1 : Int).toNat = r.toNat % 2 := Nat.and_one_is_mod _
  rw [this]
  omega

set_option maxHeartbeats 1000000 in
theorem rmore_any (c : Int) (A : Option Addr) (cap : Nat) (L : List Int) (w : World) (hc : U32 c) (hA : IntsAt .u8 w A L) (hL : ∀ x ∈ L, U8 x) (hn : L.length ≤ 140737488351232) :
    Calls Try.prog 26 #[.int .u32 c, .slice A L.length cap] w fun e w' => e = .returned (.int .u32 (moreI c L)) ∧ Below w.heap.size w w' := by
  have HA := Lib.hid hA
  have HL := Lib.hid hL
  have HC := Lib.hid hc
  have HF := Lib.hid (flip_xor hc)
  obtain ⟨c1, c2⟩ := hc
  clear hA hL
  have f1 := HF.out
  have hsg : IntKind.u32.signed = false := rfl
  have hmx : IntKind.u32.max = 4294967295 := by decide
  go_enter Try.func26, Try.ntmps26
  go_wp2
  clear hsg hmx f1
  go_loopg [5, 6] L.length (fun g r i wr => ∃ k : Nat, k ≤ L.length ∧ g = L.length - k ∧ i = .int .i64 k ∧ r = .int .u32 (runI (4294967295 - c) (L.take k)) ∧ Below w.heap.size w wr)
  case atStart => exact ⟨0, Nat.zero_le _, rfl, rfl, rfl, Below.refl _ _⟩
  case round =>
    obtain ⟨k, hk, rfl, rfl, rfl, hbw⟩ := hrel
    have hin := runI_in (L.take k) _ (flip_in HC.out) (fun x hx => HL.out x (List.mem_of_mem_take hx))
    by_cases hlt : k < L.length
    · obtain ⟨b, off, rfl, hb, hS⟩ := HA.out (by omega)
      have h0 := (hbw.cell (p := ⟨b, off + k, none⟩) hb).trans (hS k hlt)
      have hst := take_snoc_int L k hlt
      have hub := HL.out (L.getD k 0) (by rw [List.getD_eq_getElem?_getD, List.getElem?_eq_getElem hlt]; simp)
      obtain ⟨x, hx⟩ : ∃ x, x = L.getD k 0 := ⟨_, rfl⟩
      rw [← hx] at h0 hst hub
      obtain ⟨r, hr⟩ : ∃ r, r = runI (4294967295 - c) (L.take k) := ⟨_, rfl⟩
      have HST := Lib.hid (show runI (4294967295 - c) (L.take (k + 1)) = bitNI 8 (bits .xor .u32 r x) by rw [hst, runI_snoc, hr])
      rw [← hr] at hin ⊢
      have HXI := Lib.hid (xor_in hin hub.u32)
      clear hS hx hst hr
      obtain ⟨r1, r2⟩ := hin
      obtain ⟨x1, x2⟩ := hub
      have hki : (k : Int) < (L.length : Int) := by omega
      have hk0 : (0 : Int) ≤ (k : Int) := by omega
      have hsg : IntKind.u32.signed = false := rfl
      go_wp2
      clear hsg
      go_loopg [5, 7] 8 (fun g s kk wz => ∃ j : Nat, j ≤ 8 ∧ g = 8 - j ∧ kk = .int .i64 j ∧ s = .int .u32 (bitNI j (bits .xor .u32 r x)) ∧ wz = wr)
      case atStart => exact ⟨0, by omega, rfl, rfl, rfl, rfl⟩
      case round =>
        obtain ⟨j, hj, rfl, rfl, rfl, rfl⟩ := hrel
        by_cases hjl : j < 8
        · have hji : (j : Int) < 8 := by omega
          have hj0 : (0 : Int) ≤ (j : Int) := by omega
          have hin := bitNI_in HXI.out j
          obtain ⟨y, hy⟩ : ∃ y, y = bitNI j (bits .xor .u32 r x) := ⟨_, rfl⟩
          have HY := Lib.hid (show bitNI (j + 1) (bits .xor .u32 r x) = bitI y by rw [hy]; rfl)
          rw [← hy] at hin ⊢
          clear hy
          obtain ⟨y1, y2⟩ := hin
          have hsg : IntKind.u32.signed = false := rfl
          by_cases ho : y % 2 = 1
          · have HO := Lib.hid (show bitI y = bits .xor .u32 (y / 2) 3988292384 from if_pos ho)
            have t1 : (y % 2 == 1) = true := by rw [beq_iff_eq]; exact ho
            go_wp2
            go_roundg (8 - (j + 1))
            case measure => omega
            case rel => exact ⟨j + 1, by omega, rfl, by go_num, by rw [HY.out, HO.out], rfl⟩
          · have HO := Lib.hid (show bitI y = y / 2 from if_neg ho)
            have t1 : (y % 2 == 1) = false := by rw [beq_eq_false_iff_ne]; exact ho
            go_wp2
            go_roundg (8 - (j + 1))
            case measure => omega
            case rel => exact ⟨j + 1, by omega, rfl, by go_num, by rw [HY.out, HO.out], rfl⟩
        · obtain rfl : j = 8 := by omega
          go_wp2
          go_roundg (L.length - (k + 1))
          case measure => omega
          case rel => exact ⟨k + 1, by omega, rfl, by go_num, by rw [HST.out], hbw⟩
    · obtain rfl : k = L.length := by omega
      have hki : ¬ (L.length : Int) < (L.length : Int) := by omega
      rw [List.take_length] at hin ⊢
      have HFF := Lib.hid (flip_xor hin)
      have HM := Lib.hid (show moreI c L = 4294967295 - runI (4294967295 - c) L from rfl)
      obtain ⟨r, hr⟩ : ∃ r, r = runI (4294967295 - c) L := ⟨_, rfl⟩
      rw [← hr] at HFF HM hin ⊢
      clear hr
      obtain ⟨r1, r2⟩ := hin
      have hsg : IntKind.u32.signed = false := rfl
      have hmx : IntKind.u32.max = 4294967295 := by decide
      have hf := HFF.out
      go_wp2
      go_ret
      exact ⟨ret_int HM.out.symm, hbw⟩
set_option maxHeartbeats 1000000 in
theorem more_any (c : Int) (A : Option Addr) (cap : Nat) (L : List Int) (w : World) (hc : U32 c) (hA : IntsAt .u8 w A L) (hL : ∀ x ∈ L, U8 x) (hn : L.length ≤ 140737488351232) :
    Calls Try.prog 29 #[.int .u32 c, .slice A L.length cap] w fun e w' => e = .returned (.int .u32 (moreI c L)) ∧ Below w.heap.size w w' := by
  have HA := Lib.hid hA
  have HL := Lib.hid hL
  have HC := Lib.hid hc
  have HF := Lib.hid (flip_xor hc)
  obtain ⟨c1, c2⟩ := hc
  clear hA hL
  have f1 := HF.out
  have hsg : IntKind.u32.signed = false := rfl
  have hmx : IntKind.u32.max = 4294967295 := by decide
  go_enter Try.func29, Try.ntmps29
  go_wp2
  clear hsg hmx f1
  go_loopg [5, 13] L.length (fun g r i wr => ∃ k : Nat, k ≤ L.length ∧ g = L.length - k ∧ i = .int .i64 k ∧ r = .int .u32 (runI (4294967295 - c) (L.take k)) ∧ Below w.heap.size w wr)
  case atStart => exact ⟨0, Nat.zero_le _, rfl, rfl, rfl, Below.refl _ _⟩
  case round =>
    obtain ⟨k, hk, rfl, rfl, rfl, hbw⟩ := hrel
    have hin := runI_in (L.take k) _ (flip_in HC.out) (fun x hx => HL.out x (List.mem_of_mem_take hx))
    by_cases hlt : k < L.length
    · obtain ⟨b, off, rfl, hb, hS⟩ := HA.out (by omega)
      have h0 := (hbw.cell (p := ⟨b, off + k, none⟩) hb).trans (hS k hlt)
      have hst := take_snoc_int L k hlt
      have hub := HL.out (L.getD k 0) (by rw [List.getD_eq_getElem?_getD, List.getElem?_eq_getElem hlt]; simp)
      obtain ⟨x, hx⟩ : ∃ x, x = L.getD k 0 := ⟨_, rfl⟩
      rw [← hx] at h0 hst hub
      obtain ⟨r, hr⟩ : ∃ r, r = runI (4294967295 - c) (L.take k) := ⟨_, rfl⟩
      have HST := Lib.hid (show runI (4294967295 - c) (L.take (k + 1)) = bitNI 8 (bits .xor .u32 r x) by rw [hst, runI_snoc, hr])
      rw [← hr] at hin ⊢
      have HXI := Lib.hid (xor_in hin hub.u32)
      clear hS hx hst hr
      obtain ⟨r1, r2⟩ := hin
      obtain ⟨x1, x2⟩ := hub
      have hki : (k : Int) < (L.length : Int) := by omega
      have hk0 : (0 : Int) ≤ (k : Int) := by omega
      have hsg : IntKind.u32.signed = false := rfl
      go_wp2
      clear hsg
      go_loopg [5, 21] 8 (fun g s kk wz => ∃ j : Nat, j ≤ 8 ∧ g = 8 - j ∧ kk = .int .i64 j ∧ s = .int .u32 (bitNI j (bits .xor .u32 r x)) ∧ wz = wr)
      case atStart => exact ⟨0, by omega, rfl, rfl, rfl, rfl⟩
      case round =>
        obtain ⟨j, hj, rfl, rfl, rfl, rfl⟩ := hrel
        by_cases hjl : j < 8
        · have hji : (j : Int) < 8 := by omega
          have hj0 : (0 : Int) ≤ (j : Int) := by omega
          have hin := bitNI_in HXI.out j
          obtain ⟨y, hy⟩ : ∃ y, y = bitNI j (bits .xor .u32 r x) := ⟨_, rfl⟩
          have HY := Lib.hid (show bitNI (j + 1) (bits .xor .u32 r x) = bitI y by rw [hy]; rfl)
          rw [← hy] at hin ⊢
          clear hy
          obtain ⟨y1, y2⟩ := hin
          have hsg : IntKind.u32.signed = false := rfl
          have hand := and_one (r := y) ⟨y1, y2⟩
          by_cases ho : y % 2 = 1
          · have HO := Lib.hid (show bitI y = bits .xor .u32 (y / 2) 3988292384 from if_pos ho)
            have t1 : (y % 2 == 1) = true := by rw [beq_iff_eq]; exact ho
            go_wp2
            go_roundg (8 - (j + 1))
            case measure => omega
            case rel => exact ⟨j + 1, by omega, rfl, by go_num, by rw [HY.out, HO.out], rfl⟩
          · have HO := Lib.hid (show bitI y = y / 2 from if_neg ho)
            have t1 : (y % 2 == 1) = false := by rw [beq_eq_false_iff_ne]; exact ho
            go_wp2
            go_roundg (8 - (j + 1))
            case measure => omega
            case rel => exact ⟨j + 1, by omega, rfl, by go_num, by rw [HY.out, HO.out], rfl⟩
        · obtain rfl : j = 8 := by omega
          go_wp2
          go_roundg (L.length - (k + 1))
          case measure => omega
          case rel => exact ⟨k + 1, by omega, rfl, by go_num, by rw [HST.out], hbw⟩
    · obtain rfl : k = L.length := by omega
      have hki : ¬ (L.length : Int) < (L.length : Int) := by omega
      rw [List.take_length] at hin ⊢
      have HFF := Lib.hid (flip_xor hin)
      have HM := Lib.hid (show moreI c L = 4294967295 - runI (4294967295 - c) L from rfl)
      obtain ⟨r, hr⟩ : ∃ r, r = runI (4294967295 - c) L := ⟨_, rfl⟩
      rw [← hr] at HFF HM hin ⊢
      clear hr
      obtain ⟨r1, r2⟩ := hin
      have hsg : IntKind.u32.signed = false := rfl
      have hmx : IntKind.u32.max = 4294967295 := by decide
      have hf := HFF.out
      go_wp2
      go_ret
      exact ⟨ret_int HM.out.symm, hbw⟩

theorem crc_any (A : Option Addr) (cap : Nat) (L : List Int) (w : World) (hA : IntsAt .u8 w A L) (hL : ∀ x ∈ L, U8 x) (hn : L.length ≤ 140737488351232) :
    Calls Try.prog 30 #[.slice A L.length cap] w fun e w' => e = .returned (.int .u32 (moreI 0 L)) ∧ Below w.heap.size w w' := by
  have HM := Lib.hid (more_any 0 A cap L w ⟨by decide, by decide⟩ hA hL hn)
  clear hA hL
  go_enter Try.func30, Try.ntmps30
  go_wp2_with fail
  refine (HM.out).mono ?_
  rintro e w1 ⟨rfl, hb1⟩
  go_wp2
  go_ret
  exact ⟨rfl, hb1⟩
theorem rcrc_any (A : Option Addr) (cap : Nat) (L : List Int) (w : World) (hA : IntsAt .u8 w A L) (hL : ∀ x ∈ L, U8 x) (hn : L.length ≤ 140737488351232) :
    Calls Try.prog 27 #[.slice A L.length cap] w fun e w' => e = .returned (.int .u32 (moreI 0 L)) ∧ Below w.heap.size w w' := by
  have HM := Lib.hid (rmore_any 0 A cap L w ⟨by decide, by decide⟩ hA hL hn)
  clear hA hL
  go_enter Try.func27, Try.ntmps27
  go_wp2_with fail
  refine (HM.out).mono ?_
  rintro e w1 ⟨rfl, hb1⟩
  go_wp2
  go_ret
  exact ⟨rfl, hb1⟩
end Go.Proofs.Ytjpbmapnagkonaa
