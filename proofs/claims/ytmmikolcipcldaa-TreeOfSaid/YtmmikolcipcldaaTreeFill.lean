/-
  What is proved here: a tree filled with keys, each with its place as its value (filled; chapter 15). Conditions: each theorem's own.
-/
import Derived.Test.YtmmikolcipcldaaTreeKn
import Derived.Test.YtmmikolcipcldaaPick
namespace Go.Proofs.Ytmmikolcipcldaa
open Go.RowKit Go.Deep

/-- a slice of keys, as it reads. -/
def KsAt (W : World) (v : Value) (ks : List Ky) : Prop :=
  ∃ A c, v = .slice A ks.length c ∧ ks.length ≤ c ∧ (0 < ks.length → ∃ g o, A = some ⟨g, o, none⟩ ∧ g < W.heap.size ∧ ∀ i, i < ks.length →
    W.cell? ⟨g, o + i * 2, none⟩ = some (.int .i64 (ks.getD i k0).t) ∧ W.cell? ⟨g, o + i * 2 + 1, none⟩ = some (.int .i64 (ks.getD i k0).s))
section
variable {W W' : World} {v : Value} {ks : List Ky}
theorem KsAt.on {B : Nat} (h : KsAt W v ks) (hb : Below B W W') (hB : W.heap.size ≤ B) : KsAt W' v ks := by
  obtain ⟨A, c, h1, h2, h3⟩ := h
  refine ⟨A, c, h1, h2, fun hp => ?_⟩
  obtain ⟨g, o, h4, h5, h6⟩ := h3 hp
  refine ⟨g, o, h4, Nat.lt_of_lt_of_le h5 hb.size, fun i hi => ?_⟩
  have e := fun j => hb.cell (p := ⟨g, j, none⟩) (Nat.lt_of_lt_of_le h5 hB)
  rw [e, e]
  exact h6 i hi
theorem KsAt.take {A : Option Addr} {n c m : Nat} (h : KsAt W (.slice A n c) ks) (hm : m ≤ ks.length) : KsAt W (.slice A m c) (ks.take m) := by
  obtain ⟨A', c', h1, h2, h3⟩ := h
  cases h1
  have hl : (ks.take m).length = m := by rw [List.length_take]; omega
  refine ⟨A, c, by rw [hl], by omega, fun hp => ?_⟩
  rw [hl] at hp
  obtain ⟨g, o, h4, h5, h6⟩ := h3 (by omega)
  refine ⟨g, o, h4, h5, fun i hi => ?_⟩
  rw [hl] at hi
  rw [take_getD hi]
  exact h6 i (by omega)
end
/-- the first keys, put in a tree one by one. -/
def filE (ks : List Ky) : Nat → List En
  | 0 => []
  | i + 1 => insE (ks.getD i k0) i (filE ks i)
theorem filE_up (ks : List Ky) : ∀ i, Up (filE ks i)
  | 0 => List.Pairwise.nil
  | i + 1 => (insE_up (filE_up ks i)).1
theorem filE_len (ks : List Ky) : ∀ i, (filE ks i).length ≤ i
  | 0 => Nat.le_refl _
  | i + 1 => by
    have h1 := insE_len (ks.getD i k0) i (filE ks i) (filE_up ks i)
    have h2 := filE_len ks i
    show (insE _ _ _).length ≤ _
    rw [h1]
    split <;> omega

set_option maxRecDepth 100000 in
set_option maxHeartbeats 4000000 in
theorem filled_any {w : World} {v : Value} {ks : List Ky} {deg : Int} {d : Nat} (hk : KsAt w v ks) (hlen : ks.length ≤ 600) (hd1 : -9223372036854775808 ≤ deg) (hd2 : deg ≤ 9223372036854775807) (hd : (d : Int) = 2 + deg % 15) :
    Calls Try.prog 16 #[.int .i64 deg, v] w fun e w' => ∃ tr, e = .returned (.pointer (some ⟨tr, 0, none⟩)) ∧ Has w.heap.size w tr d (filE ks ks.length) w' := by
  obtain ⟨A, c, rfl, hc, hA⟩ := hk
  have HA := Lib.hid hA
  clear hA
  have e1 := Int.emod_nonneg deg (show (15 : Int) ≠ 0 by omega)
  have e2 := Int.emod_lt_of_pos deg (show (0 : Int) < 15 by omega)
  have hw1 : IntKind.i64.wrap (2 + deg % 15) = (d : Int) := by rw [IntWalk.i64_in _ (by omega)]; omega
  have HD := Lib.hid (show 2 ≤ d ∧ d ≤ 16 by omega)
  have HN := Lib.hid (show ∀ W, Calls Try.prog 10 #[.int .i64 d] W fun e w' => e = .returned (.tuple #[.pointer (some ⟨W.heap.size, 0, none⟩), .int .i64 0]) ∧ Has W.heap.size W W.heap.size d [] w' from fun W => (new_any d W HD.out.1 HD.out.2).mono fun e w' h => ⟨h.1, Has.new h.2 (Below.refl _ _) (Nat.le_refl _)⟩)
  have HP := Lib.hid (fun W => pick_any deg 15 W hd1 hd2 (by omega) (by omega))
  clear hd e1 e2 hd1 hd2
  go_enter Try.func16, Try.ntmps16
  go_upto_region 1 with fail
  go_cut [5, 6, 8, 9, 10, 11, 12, 13, 14] (fun s5 s6 _ _ _ _ _ _ _ wx => ∃ tr, s5 = .pointer (some ⟨tr, 0, none⟩) ∧ s6 = .int .i64 0 ∧ Has w.heap.size w tr d [] wx)
  case first =>
    go_wp2_with (first
      | (go_at_call 22; (with_reducible refine Calls.mono (HP.out _) ?_); rintro e w1 ⟨rfl, rfl⟩)
      | (go_at_call 10; (with_reducible refine Calls.mono (HN.out _) ?_); rintro e w1 ⟨rfl, hH⟩))
    go_meet
    exact ⟨_, rfl, rfl, hH⟩
  obtain ⟨tr, rfl, rfl, hH⟩ := hcut
  obtain ⟨wx, rfl⟩ : ∃ wq : World, wq = wc := ⟨_, rfl⟩
  have HH := Lib.hid hH
  clear hH hw1 HP HN
  go_wp2_with fail
  go_loopg [7] ks.length (fun g i wr => ∃ x : Nat, x ≤ ks.length ∧ g = ks.length - x ∧ i = .int .i64 x ∧ Has w.heap.size w tr d (filE ks x) wr)
  case atStart => exact ⟨0, Nat.zero_le _, rfl, rfl, HH.out⟩
  case round =>
    clear HH
    obtain ⟨x, hx, rfl, rfl, hH⟩ := hrel
    by_cases hlt : x < ks.length
    · have hki : (x : Int) < (ks.length : Int) := by omega
      have hk0 : (0 : Int) ≤ (x : Int) := by omega
      obtain ⟨b, off, rfl, hb, hS⟩ := HA.out (by omega)
      obtain ⟨c0, c1⟩ := hS x hlt
      rw [← hH.bel.cell (p := ⟨b, _, none⟩) hb] at c0 c1
      obtain ⟨q, hq⟩ : ∃ q, q = ks.getD x k0 := ⟨_, rfl⟩
      rw [← hq] at c0 c1
      obtain ⟨q1, q2⟩ := q
      have HPT := Lib.hid (hH.put HD.out.1 HD.out.2 (by have := filE_len ks x; omega) q1 q2 x)
      have HQ := Lib.hid hq
      clear hS hH hq
      go_wp2_with (go_at_call 32; (with_reducible refine Calls.mono HPT.out ?_); rintro e w1 ⟨rfl, hH1⟩)
      go_roundg (ks.length - (x + 1))
      case measure => omega
      case rel =>
        refine ⟨x + 1, by omega, rfl, by go_num, ?_⟩
        show Has w.heap.size w tr d (insE (ks.getD x k0) x (filE ks x)) _
        rw [← HQ.out]
        exact hH1
    · obtain rfl : x = ks.length := by omega
      have hki : ¬ (ks.length : Int) < (ks.length : Int) := by omega
      go_wp2_with fail
      go_ret
      exact ⟨tr, rfl, hH⟩
end Go.Proofs.Ytmmikolcipcldaa
