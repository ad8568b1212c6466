/-
  What is proved here: lists of points that are lent, looked at again, written over (package outstationkit). Conditions: none beyond each theorem's own.
-/
import Derived.Test.YtjidfcogcgaclaaPointKit
import Derived.RegionTactic
import Derived.BigRegion
namespace Go.Proofs.Ytjidfcogcgaclaa
open Go.RowKit Go.Deep
attribute [local go_sem high] eq_point ne_point eqp_self

theorem only_refl (w : World) (row : Option Nat) : w.grownBy w row := ⟨rfl, rfl, rfl, Nat.le_refl _, fun _ _ _ => rfl⟩
theorem only_drew {a w : World} {row : Option Nat} (h : a.grownBy w row) : a.grownBy w.drew row := ⟨h.os, h.tape, h.output, h.size, h.block⟩
theorem only_drewN {a w : World} {row : Option Nat} (h : a.grownBy w row) (n : Nat) : a.grownBy (w.drewN n) row := ⟨h.os, h.tape, h.output, h.size, h.block⟩
theorem only_set {a w : World} {g : Nat} (h : a.grownBy w (some g)) (o : Nat) (u : Value) : a.grownBy (w.setCell ⟨g, o, none⟩ u) (some g) :=
  ⟨h.os, h.tape, h.output, by simpa [World.setCell] using h.size, fun i hi hne => (Below.heap_setCell w ⟨g, o, none⟩ u i (fun e => hne (by rw [e]))).trans (h.block i hi hne)⟩
theorem only_trans {a b c : World} {row : Option Nat} (h : a.grownBy b row) (k : b.grownBy c row) : a.grownBy c row :=
  ⟨k.os.trans h.os, k.tape.trans h.tape, k.output.trans h.output, Nat.le_trans h.size k.size, fun i hi hne => (k.block i (Nat.lt_of_lt_of_le hi h.size) hne).trans (h.block i hi hne)⟩

def Spoilt (w : World) (g c : Nat) (w' : World) : Prop := PRow w' g c [] ∧ w.grownBy w' (some g)

set_option maxHeartbeats 1000000 in
theorem spoil_row (g n c : Nat) (w : World) (h : PRow w g c []) (hn : n ≤ c) (hc : c ≤ 9223372036854775807) :
    Calls Try.prog 25 #[.slice (some ⟨g, 0, none⟩) n c] w fun e w' => e = .returned (.tuple #[]) ∧ Spoilt w g c w' := by
  have H := Lib.hid h
  clear h
  go_enter Try.func25, Try.ntmps25
  go_wp2
  go_loopg [3] c (fun gk i wr => ∃ k : Nat, k ≤ c ∧ gk = c - k ∧ i = .int .i64 k ∧ PRow wr g c [] ∧ w.grownBy wr (some g))
  case atStart => exact ⟨0, Nat.zero_le _, rfl, rfl, H.out, only_refl _ _⟩
  case round =>
    obtain ⟨k, hk, rfl, rfl, hrow, hg⟩ := hrel
    by_cases hlt : k < c
    · obtain ⟨a, h0⟩ := hrow.any (j := k * 2) (by omega)
      obtain ⟨b, h1⟩ := hrow.any (j := k * 2 + 1) (by omega)
      have f0 := hrow.frozen (k * 2)
      have f1 := hrow.frozen (k * 2 + 1)
      have hki : (k : Int) < (c : Int) := by omega
      have hk0 : (0 : Int) ≤ (k : Int) := by omega
      have HR := Lib.hid hrow
      have HG := Lib.hid hg
      clear hrow hg
      go_wp2
      go_region
      go_wp2
      go_roundg (c - (k + 1))
      case measure => omega
      case rel => exact ⟨k + 1, by omega, rfl, by go_num, (HR.out.set_ _ _).set_ _ _, only_drew (only_set (only_set HG.out _ _) _ _)⟩
    · obtain rfl : k = c := by omega
      have hki : ¬ (k : Int) < (k : Int) := by omega
      have HR := Lib.hid hrow
      have HG := Lib.hid hg
      clear hrow hg
      go_wp2
      go_end0
      exact ⟨rfl, HR.out, HG.out⟩

theorem spoil_nil (w : World) :
    Calls Try.prog 25 #[.slice none 0 0] w fun e w' => e = .returned (.tuple #[]) ∧ w = w' := by
  go_enter Try.func25, Try.ntmps25
  go_wp2
  go_loopg [3] 0 (fun gk i wr => i = .int .i64 0 ∧ w = wr)
  case atStart => exact ⟨rfl, rfl⟩
  case round =>
    obtain ⟨rfl, rfl⟩ := hrel
    go_wp2
    go_end0
    exact ⟨rfl, rfl⟩

theorem take_two (l : List Value) (k : Nat) (a b : Value) (h : k + 1 < l.length) : ((l.set k a).set (k + 1) b).take (k + 2) = l.take k ++ [a, b] := by
  apply List.ext_getElem?
  intro i
  rw [List.getElem?_take, List.getElem?_set, List.getElem?_set]
  by_cases h1 : i < k
  · rw [List.getElem?_append_left (by rw [List.length_take]; omega), List.getElem?_take]
    simp [h1, show i < k + 2 by omega, show ¬ k + 1 = i by omega, show ¬ k = i by omega]
  · rw [List.getElem?_append_right (by rw [List.length_take]; omega), List.length_take, Nat.min_eq_left (by omega)]
    by_cases h2 : i = k
    · subst h2
      simp [show i < l.length by omega]
    · by_cases h3 : i = k + 1
      · subst h3
        simp [h, show k + 1 - k = 1 by omega]
      · simp [show ¬ i < k + 2 by omega, show 2 ≤ i - k by omega]

theorem PRow.push {w : World} {g m : Nat} {O : List Point} (h : PRow w g m O) (hl : O.length < m) (x : Point) :
    PRow ((w.setCell ⟨g, O.length * 2, none⟩ (.int .i64 x.v)).setCell ⟨g, O.length * 2 + 1, none⟩ (.int .i64 x.t)) g m (O ++ [x]) := by
  obtain ⟨cs, hb, hs, _, ht, hu⟩ := h
  refine ⟨_, (hb.set_ _ _).set_ _ _, by simpa using hs, by simp; omega, ?_, fun u hm => ?_⟩
  · have hcl : O.length * 2 + 1 < cs.toList.length := by
      have : cs.toList.length = m * 2 := by simpa using hs
      omega
    rw [Array.toList_setIfInBounds, Array.toList_setIfInBounds, List.length_append, List.length_singleton, show (O.length + 1) * 2 = O.length * 2 + 2 by omega, take_two _ _ _ _ hcl, ht, List.flatMap_append]
    simp [pcells]
  · rw [Array.toList_setIfInBounds, Array.toList_setIfInBounds] at hm
    rcases List.mem_or_eq_of_mem_set hm with hm | hm
    · rcases List.mem_or_eq_of_mem_set hm with hm | hm
      · exact hu u hm
      · exact ⟨_, hm⟩
    · exact ⟨_, hm⟩

theorem run_make_rowN {P : Program} (t e : TypeId) (i : TypeInfo) (z : Value) (ht : P.underlying t = some (.slice e)) (hi : P.info? e = some i) (hz : i.zero = some z)
    (kl kc : IntKind) (n c : Nat) (hnc : n ≤ c) (hbytes : i.bytes * c ≤ 281474976710656) (h63 : c ≤ 9223372036854775807) (w : World) :
    (Instr.makeSlice t (.int kl (n : Int)) (.int kc (c : Int))).run P w = .ok (.slice (some ⟨w.heap.size, 0, none⟩) n c) (w.alloc (.cells (madeCells z.cells (c * i.size)) e)) := by
  have hb : (i.bytes : Int) * (c : Int) ≤ 281474976710656 := by
    have h : ((i.bytes * c : Nat) : Int) ≤ 281474976710656 := by omega
    rwa [Int.natCast_mul] at h
  have hr := run_make (P := P) w t e i z ht hi hz kl kc n c (by omega) (by omega) hb (by omega)
  simp only [Int.toNat_natCast] at hr
  exact hr
theorem PRow.made (w : World) (n : Nat) : PRow (w.alloc (.cells (madeCells #[.int .i64 0, .int .i64 0] (n * 2)) 27)) w.heap.size n [] := by
  refine ⟨_, Blk.new _ _ _, size_madeCells _ _, by simp, by simp, fun u hu => ?_⟩
  simp only [madeCells, Array.toList_map, List.mem_map] at hu
  obtain ⟨j, _, e⟩ := hu
  have h2 : j % 2 = 0 ∨ j % 2 = 1 := by omega
  have hsz : (#[Value.int .i64 0, Value.int .i64 0] : Array Value).size = 2 := rfl
  rw [hsz] at e
  rcases h2 with h2 | h2 <;> rw [h2] at e <;> exact ⟨0, e.symm⟩

def mark : Point := ⟨-77, -77⟩
def lentL (L : List Point) : List Point := L ++ [mark, mark, mark, mark, mark]
theorem lentL_len (L : List Point) : (lentL L).length = L.length + 5 := by simp [lentL]
theorem lentL_step (L : List Point) (k : Nat) (hk : k < L.length + 5) : (lentL L).take (k + 1) = (lentL L).take k ++ [(lentL L).getD k p0] := by
  have h : k < (lentL L).length := by rw [lentL_len]; exact hk
  rw [List.take_succ_eq_append_getElem h, List.getD_eq_getElem?_getD, List.getElem?_eq_getElem h]; rfl
theorem lentL_old (L : List Point) (k : Nat) (hk : k < L.length) : (lentL L).getD k p0 = L.getD k p0 := by
  rw [lentL, List.getD_eq_getElem?_getD, List.getElem?_append_left hk, List.getD_eq_getElem?_getD]
theorem lentL_mark (L : List Point) (k : Nat) (hk : L.length ≤ k) (h : k < L.length + 5) : (lentL L).getD k p0 = mark := by
  rw [lentL, List.getD_eq_getElem?_getD, List.getElem?_append_right hk]
  have : k - L.length = 0 ∨ k - L.length = 1 ∨ k - L.length = 2 ∨ k - L.length = 3 ∨ k - L.length = 4 := by omega
  rcases this with e | e | e | e | e <;> rw [e] <;> rfl

def LentBack (w : World) (L : List Point) (e : Ending) (w' : World) : Prop :=
  ∃ g, e = .returned (.slice (some ⟨g, 0, none⟩) L.length (L.length + 5)) ∧ w.heap.size ≤ g ∧ PRow w' g (L.length + 5) (lentL L) ∧ Below w.heap.size w w'

set_option maxHeartbeats 1000000 in
theorem lent_points (A : Option Addr) (cap : Nat) (L : List Point) (w : World) (hA : PointsAt w A L) (hlen : L.length * 16 ≤ 140737488351232) :
    Calls Try.prog 13 #[.slice A L.length cap] w (LentBack w L) := by
  obtain ⟨i0, hi0, hz0, hz1, hz2⟩ := info_parts infoP
  have hmk := fun W => run_make_rowN (P := Try.prog) 33 27 i0 _ Try.underlying33 hi0 hz0 .i64 .i64 (L.length + 5) (L.length + 5) (Nat.le_refl _) (by rw [hz2]; omega) (by omega) W
  have ec : ((L.length + 5 : Nat) : Int) = (L.length : Int) + 5 := by omega
  rw [ec, hz1] at hmk
  simp only [Value.cells] at hmk
  clear hi0 hz0 hz1 hz2 ec
  have HA := Lib.hid hA
  clear hA
  have hB := PRow.made w (L.length + 5)
  have hb0 : Below w.heap.size w (w.alloc (.cells (madeCells #[.int .i64 0, .int .i64 0] ((L.length + 5) * 2)) 27)) := (Below.refl _ _).alloc (Nat.le_refl _) _
  have HB := Lib.hid hB
  have H0 := Lib.hid hb0
  clear hB hb0
  go_enter Try.func13, Try.ntmps13
  go_wp2
  go_loopg [4] L.length (fun g i wr => ∃ k : Nat, k ≤ L.length ∧ g = L.length - k ∧ i = .int .i64 k ∧ PRow wr w.heap.size (L.length + 5) ((lentL L).take k) ∧ Below w.heap.size w wr)
  case atStart => exact ⟨0, Nat.zero_le _, rfl, rfl, by simpa using HB.out, H0.out⟩
  case round =>
    obtain ⟨k, hk, rfl, rfl, hblk, hbw⟩ := hrel
    have htl : ((lentL L).take k).length = k := by rw [List.length_take, lentL_len]; omega
    by_cases hlt : k < L.length
    · obtain ⟨b, off, rfl, hb, hS⟩ := HA.out (by omega)
      obtain ⟨c0, c1⟩ := hS k hlt
      have h0 := (hbw.cell (p := ⟨b, off + k * 2, none⟩) hb).trans c0
      have h1 := (hbw.cell (p := ⟨b, off + k * 2 + 1, none⟩) hb).trans c1
      have hst := lentL_step L k (by omega)
      rw [lentL_old L k hlt] at hst
      clear c0 c1 hS
      obtain ⟨x, hx⟩ : ∃ x, x = L.getD k p0 := ⟨_, rfl⟩
      rw [← hx] at h0 h1 hst
      have hpush := hblk.push (by rw [htl]; omega) x
      rw [← hst, htl] at hpush
      have HST := Lib.hid hpush
      obtain ⟨z0, d0⟩ := hblk.any (j := k * 2) (by omega)
      obtain ⟨z1, d1⟩ := hblk.any (j := k * 2 + 1) (by omega)
      have f0 := hblk.frozen (k * 2)
      have f1 := hblk.frozen (k * 2 + 1)
      have hlb := hblk.lt
      have hki : (k : Int) < (L.length : Int) := by omega
      have hk0 : (0 : Int) ≤ (k : Int) := by omega
      clear hblk hx hmk hpush hst htl
      go_wp2
      go_roundg (L.length - (k + 1))
      case measure => omega
      case rel => exact ⟨k + 1, by omega, rfl, by go_num, HST.out, by (repeat (first | (with_reducible assumption) | (with_reducible exact Below.refl _ _) | ((with_reducible refine Below.setCell ?_ ?_ _); rotate_left; · (first | omega | (simp; done) | (simp; omega) | (simp at *; omega))) | ((with_reducible refine Below.alloc ?_ ?_ _); rotate_left; · (first | omega | (simp; done) | (simp; omega) | (simp at *; omega))) | (with_reducible refine Below.drew ?_) | (with_reducible refine below_drewN ?_ _) | ((refine Below.trans ?_ (Below.mono (by with_reducible assumption) ?_)); rotate_left; · (first | omega | (simp; done) | (simp; omega) | (simp at *; omega)))))⟩
    · obtain rfl : k = L.length := by omega
      clear hmk htl
      have hki : ¬ (L.length : Int) < (L.length : Int) := by omega
      have HB2 := Lib.hid hblk
      clear hblk
      go_wp2
      go_loopg [5] 5 (fun g i wr => ∃ k : Nat, k ≤ L.length + 5 ∧ L.length ≤ k ∧ g = L.length + 5 - k ∧ i = .int .i64 k ∧ PRow wr w.heap.size (L.length + 5) ((lentL L).take k) ∧ Below w.heap.size w wr)
      case atStart => exact ⟨L.length, by omega, Nat.le_refl _, by omega, rfl, HB2.out, hbw⟩
      case round =>
        clear HB2 hbw
        obtain ⟨k, hk, hk1, rfl, rfl, hblk, hbw⟩ := hrel
        have htl : ((lentL L).take k).length = k := by rw [List.length_take, lentL_len]; omega
        by_cases hlt : k < L.length + 5
        · have hst := lentL_step L k (by omega)
          rw [lentL_mark L k hk1 hlt] at hst
          have hpush := hblk.push (by rw [htl]; omega) mark
          rw [← hst, htl] at hpush
          have HST := Lib.hid hpush
          obtain ⟨z0, d0⟩ := hblk.any (j := k * 2) (by omega)
          obtain ⟨z1, d1⟩ := hblk.any (j := k * 2 + 1) (by omega)
          have f0 := hblk.frozen (k * 2)
          have f1 := hblk.frozen (k * 2 + 1)
          have hlb := hblk.lt
          have hki : (k : Int) < (L.length : Int) + 5 := by omega
          have hk0 : (0 : Int) ≤ (k : Int) := by omega
          clear hblk hpush hst htl
          go_wp2
          go_roundg (L.length + 5 - (k + 1))
          case measure => omega
          case rel => exact ⟨k + 1, by omega, by omega, rfl, by go_num, HST.out, by (repeat (first | (with_reducible assumption) | (with_reducible exact Below.refl _ _) | ((with_reducible refine Below.setCell ?_ ?_ _); rotate_left; · (first | omega | (simp; done) | (simp; omega) | (simp at *; omega))) | ((with_reducible refine Below.alloc ?_ ?_ _); rotate_left; · (first | omega | (simp; done) | (simp; omega) | (simp at *; omega))) | (with_reducible refine Below.drew ?_) | (with_reducible refine below_drewN ?_ _) | ((refine Below.trans ?_ (Below.mono (by with_reducible assumption) ?_)); rotate_left; · (first | omega | (simp; done) | (simp; omega) | (simp at *; omega)))))⟩
        · obtain rfl : k = L.length + 5 := by omega
          have hki : ¬ (((L.length + 5 : Nat) : Int) < (L.length : Int) + 5) := by omega
          rw [← lentL_len L, List.take_length, lentL_len L] at hblk
          have HR := Lib.hid hblk
          clear hblk htl
          go_wp2
          go_ret
          exact ⟨w.heap.size, by simp, Nat.le_refl _, HR.out, hbw⟩

theorem PRow.begin {w : World} {g m : Nat} {L : List Point} (h : PRow w g m (lentL L)) : PointsAt w (some ⟨g, 0, none⟩) L := by
  intro hp
  obtain ⟨b, off, e, hlt, hc⟩ := h.at_ (by rw [lentL_len]; omega)
  refine ⟨b, off, e, hlt, fun i hi => ?_⟩
  have := hc i (by rw [lentL_len]; omega)
  rw [lentL_old L i hi] at this
  exact this

theorem kept_points (g ca : Nat) (B : Option Addr) (cb : Nat) (L : List Point) (w : World) (hblk : PRow w g (L.length + 5) (lentL L)) (hB : PointsAt w B L) (hlen : L.length ≤ 140737488351000) (hca : ca = L.length + 5) :
    Calls Try.prog 17 #[.slice (some ⟨g, 0, none⟩) L.length ca, .slice B L.length cb] w fun e w' => e = .returned (.bool true) ∧ Below w.heap.size w w' := by
  have hsame := same_points (some ⟨g, 0, none⟩) B ca cb L L w hblk.begin hB (by omega)
  have HS := Lib.hid (show Calls Try.prog 15 #[.slice (some ⟨g, 0, none⟩) L.length ca, .slice B L.length cb] w (fun (e : Ending) w' => e = .returned (.bool true) ∧ Below w.heap.size w w') from
    hsame.mono fun _ _ ⟨he, hb⟩ => ⟨by rw [he, decide_eq_true rfl], hb⟩)
  have HB := Lib.hid hblk
  clear hsame hblk hB
  subst hca
  go_enter Try.func17, Try.ntmps17
  go_wp2_with (go_at_call 15; refine (HS.out).mono ?_; rintro e w1 ⟨rfl, hb1⟩)
  go_loopg [6] 5 (fun g' i wr => ∃ k : Nat, k ≤ L.length + 5 ∧ L.length ≤ k ∧ g' = L.length + 5 - k ∧ i = .int .i64 k ∧ Below w.heap.size w wr)
  case atStart => exact ⟨L.length, by omega, Nat.le_refl _, by omega, rfl, hb1⟩
  case round =>
    obtain ⟨k, hk, hk1, rfl, rfl, hbw⟩ := hrel
    by_cases hlt : k < L.length + 5
    · obtain ⟨d0, d1⟩ := (HB.out.below hbw HB.out.lt).cell (i := k) (by rw [lentL_len]; exact hlt)
      rw [lentL_mark L k hk1 hlt] at d0 d1
      simp only [mark] at d0 d1
      have hki : (k : Int) < (L.length : Int) + 5 := by omega
      have hk0 : (0 : Int) ≤ (k : Int) := by omega
      go_wp2
      go_roundg (L.length + 5 - (k + 1))
      case measure => omega
      case rel => exact ⟨k + 1, by omega, by omega, rfl, by go_num, by (repeat (first | (with_reducible assumption) | (with_reducible exact Below.refl _ _) | ((with_reducible refine Below.setCell ?_ ?_ _); rotate_left; · (first | omega | (simp; done) | (simp; omega) | (simp at *; omega))) | ((with_reducible refine Below.alloc ?_ ?_ _); rotate_left; · (first | omega | (simp; done) | (simp; omega) | (simp at *; omega))) | (with_reducible refine Below.drew ?_) | (with_reducible refine below_drewN ?_ _) | ((refine Below.trans ?_ (Below.mono (by with_reducible assumption) ?_)); rotate_left; · (first | omega | (simp; done) | (simp; omega) | (simp at *; omega)))))⟩
    · obtain rfl : k = L.length + 5 := by omega
      have hki : ¬ (((L.length + 5 : Nat) : Int) < (L.length : Int) + 5) := by omega
      go_wp2
      go_ret
      exact ⟨rfl, hbw⟩
end Go.Proofs.Ytjidfcogcgaclaa
