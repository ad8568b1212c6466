/-
  What is proved here: lists of numbers ([]uint8) that are held against each other, copied, lent, looked at again, written over, and share no memory (package outstationkit). Conditions: none beyond each theorem's own.
-/
import Derived.Test.YtognidoohinipaaRows
import Derived.Test.YtognidoohinipaaIntRow
import Derived.BigQuiet
import Derived.Deep.QuietTactic
import Derived.Deep.LoopGhost
import Derived.WalkLawsBesides
import Derived.WalkSpells
import Derived.RegionTactic
import Derived.BigRegion
namespace Go.Proofs.Ytognidoohinipaa
namespace Bytes
open Go.RowKit Go.Deep Go.Joins Go.WideShapes

theorem same_any (A B : Option Addr) (ca cb : Nat) (L M : List Int) (w : World) (hA : IntsAt .u8 w A L) (hB : IntsAt .u8 w B M) (hlen : L.length ≤ 140737488351232) :
    Calls Try.prog 13 #[.slice A L.length ca, .slice B M.length cb] w fun e w' => e = .returned (.bool (decide (L = M))) ∧ Below w.heap.size w w' := by
  by_cases hl : L.length = M.length
  · have HA := Lib.hid hA
    have HB := Lib.hid hB
    clear hA hB
    rw [← hl]
    have HL := Lib.hid hl
    clear hl
    go_enter Try.func13, Try.ntmps13
    go_wp2
    go_loopg [5] L.length (fun g i wr => ∃ k : Nat, k ≤ L.length ∧ g = L.length - k ∧ i = .int .i64 k ∧ (∀ j, j < k → L.getD j 0 = M.getD j 0) ∧ Below w.heap.size w wr)
    case atStart => exact ⟨0, Nat.zero_le _, rfl, rfl, fun j hj => absurd hj (by omega), Below.refl _ _⟩
    case round =>
      obtain ⟨k, hk, rfl, rfl, hsame, hbw⟩ := hrel
      have HSM := Lib.hid hsame
      clear hsame
      by_cases hlt : k < L.length
      · obtain ⟨b, off, rfl, hb, hS⟩ := HA.out (by omega)
        have hlM : L.length = M.length := HL.out
        obtain ⟨b', off', rfl, hb', hS'⟩ := HB.out (by omega)
        have h0 := (hbw.cell (p := ⟨b, off + k, none⟩) hb).trans (hS k hlt)
        have e0 := (hbw.cell (p := ⟨b', off' + k, none⟩) hb').trans (hS' k (by omega))
        clear hS hS' hlM
        obtain ⟨x, hx⟩ : ∃ x, x = L.getD k 0 := ⟨_, rfl⟩
        rw [← hx] at h0
        obtain ⟨y, hy⟩ : ∃ y, y = M.getD k 0 := ⟨_, rfl⟩
        rw [← hy] at e0
        have HX := Lib.hid hx
        have HY := Lib.hid hy
        clear hx hy
        have hki : (k : Int) < (L.length : Int) := by omega
        have hk0 : (0 : Int) ≤ (k : Int) := by omega
        by_cases hxy : x = y
        · subst hxy
          go_wp2
          go_quiet (fail)
          go_wp2
          go_roundg (L.length - (k + 1))
          case measure => omega
          case rel =>
            refine ⟨k + 1, by omega, rfl, by go_num, fun j hj => ?_, by (repeat (first | (with_reducible assumption) | (with_reducible exact Below.refl _ _) | ((with_reducible refine Below.setCell ?_ ?_ _); rotate_left; · (first | omega | (simp; done) | (simp; omega) | (simp at *; omega))) | ((with_reducible refine Below.alloc ?_ ?_ _); rotate_left; · (first | omega | (simp; done) | (simp; omega) | (simp at *; omega))) | (with_reducible refine Below.drew ?_) | (with_reducible refine below_drewN ?_ _) | ((refine Below.trans ?_ (Below.mono (by with_reducible assumption) ?_)); rotate_left; · (first | omega | (simp; done) | (simp; omega) | (simp at *; omega)))))⟩
            by_cases e : j = k
            · rw [e, ← HX.out, ← HY.out]
            · exact HSM.out j (by omega)
        · have hne : (x == y) = false := by rw [beq_eq_false_iff_ne]; exact hxy
          have hne' : (x != y) = true := by rw [bne_iff_ne]; exact hxy
          have HXY := Lib.hid hxy
          clear hxy
          go_wp2
          go_quiet (fail)
          go_wp2
          go_ret
          exact ⟨ret_bool (decide_eq_false (fun e => HXY.out (by rw [HX.out, HY.out, e]))).symm, by (repeat (first | (with_reducible assumption) | (with_reducible exact Below.refl _ _) | ((with_reducible refine Below.setCell ?_ ?_ _); rotate_left; · (first | omega | (simp; done) | (simp; omega) | (simp at *; omega))) | ((with_reducible refine Below.alloc ?_ ?_ _); rotate_left; · (first | omega | (simp; done) | (simp; omega) | (simp at *; omega))) | (with_reducible refine Below.drew ?_) | (with_reducible refine below_drewN ?_ _) | ((refine Below.trans ?_ (Below.mono (by with_reducible assumption) ?_)); rotate_left; · (first | omega | (simp; done) | (simp; omega) | (simp at *; omega)))))⟩
      · obtain rfl : k = L.length := by omega
        have hki : ¬ (L.length : Int) < (L.length : Int) := by omega
        go_wp2
        go_ret
        exact ⟨ret_bool (decide_eq_true (ext_getD_int HL.out HSM.out)).symm, hbw⟩
  · have hne : ((L.length : Int) == (M.length : Int)) = false := by rw [beq_eq_false_iff_ne]; omega
    have hne' : ((L.length : Int) != (M.length : Int)) = true := by rw [bne_iff_ne]; omega
    have HL := Lib.hid hl
    clear hl hA hB
    go_enter Try.func13, Try.ntmps13
    go_wp2
    go_ret
    exact ⟨ret_bool (decide_eq_false (fun e => HL.out (by rw [e]))).symm, Below.refl _ _⟩
theorem same_reads {w : World} {u v : Value} {L M : List Int} (hu : Reads .u8 w u L) (hv : Reads .u8 w v M) (hlen : L.length ≤ 140737488351232) :
    Calls Try.prog 13 #[u, v] w fun e w' => e = .returned (.bool (decide (L = M))) ∧ Below w.heap.size w w' := by
  obtain ⟨A, ca, rfl, hA⟩ := hu
  obtain ⟨B, cb, rfl, hB⟩ := hv
  exact same_any A B ca cb L M w hA hB hlen
theorem same_yes {w : World} {u v : Value} {L : List Int} (hu : Reads .u8 w u L) (hv : Reads .u8 w v L) (hlen : L.length ≤ 140737488351232) :
    Calls Try.prog 13 #[u, v] w fun e w' => e = .returned (.bool true) ∧ Below w.heap.size w w' := by
  refine (same_reads hu hv hlen).mono ?_
  rintro e w' ⟨rfl, hb⟩
  exact ⟨by rw [decide_eq_true rfl], hb⟩
theorem infoE : (Try.prog.info? 5).map (fun i => (i.zero, i.size, i.bytes)) = some (some (.int .u8 0), 1, 1) := by kernel_rfl

/-- a new list of the call's own. -/
def NewList (w : World) (L : List Int) (e : Ending) (w' : World) : Prop :=
  ∃ v, e = .returned v ∧ OwnG (IsIntK .u8) w' w.heap.size 5 1 v L.length (L.map (Value.int .u8)) ∧ Below w.heap.size w w'

set_option maxHeartbeats 1000000 in
theorem copy_any (A : Option Addr) (ca : Nat) (L : List Int) (w : World) (hA : IntsAt .u8 w A L) (hlen : L.length * 1 ≤ 140737488351232) :
    Calls Try.prog 20 #[.slice A L.length ca] w (NewList w L) := by
  obtain ⟨i0, hi0, hz0, hz1, hz2⟩ := info_parts infoE
  have HA := Lib.hid hA
  clear hA
  go_enter Try.func20, Try.ntmps20
  go_wp2
  go_loopg [3, 4] L.length (fun g ov i wr => ∃ k : Nat, k ≤ L.length ∧ g = L.length - k ∧ i = .int .i64 k ∧ OwnG (IsIntK .u8) wr w.heap.size 5 1 ov (L.take k).length ((L.take k).map (Value.int .u8)) ∧ Below w.heap.size w wr)
  case atStart => exact ⟨0, Nat.zero_le _, rfl, rfl, by simpa using OwnG.nil_ w w.heap.size _ 1, Below.refl _ _⟩
  case round =>
    obtain ⟨k, hk, rfl, rfl, hown, hbw⟩ := hrel
    by_cases hlt : k < L.length
    · obtain ⟨b, off, rfl, hb, hS⟩ := HA.out (by omega)
      have h0 := (hbw.cell (p := ⟨b, off + k, none⟩) hb).trans (hS k hlt)
      have hst := take_snoc_int L k hlt
      obtain ⟨x, hx⟩ : ∃ x, x = L.getD k 0 := ⟨_, rfl⟩
      rw [← hx] at h0 hst
      have hgx := ints_all .u8 (L.take k)
      have hol : (L.take k).length = k := by rw [List.length_take]; omega
      have HST := Lib.hid hst
      have HOL := Lib.hid hol
      clear hS hx hst
      obtain ⟨O, hO⟩ : ∃ O, O = L.take k := ⟨_, rfl⟩
      rw [← hO] at hown HST HOL hgx hol
      clear hO
      have hki : (k : Int) < (L.length : Int) := by omega
      have hk0 : (0 : Int) ≤ (k : Int) := by omega
      have hws := hbw.size
      have hok : O.length ≤ k := by omega
      clear hol
      have k3 : O.length + 1 ≤ maxLen := by unfold maxLen; omega
      have k4 : (O.length + 1) * 1 ≤ 140737488355328 := by omega
      have k5 : w.heap.size ≤ (wr.alloc (.cells #[.int .u8 x] 5)).heap.size := by simp; omega
      have k2 := (ints_one .u8 x).1
      have k6 := (ints_one .u8 x).2
      have k7 := zero_intK .u8
      go_wp2_with (at_builtin; refine wpList_append_G _ rfl (.tmp 11) (.tmp 16) 24 rfl (IsIntK .u8) w.heap.size 5 i0 _ 1 1 Try.underlying24 hi0 hz0 hz1 hz2 rfl (by omega) _ O.length (O.map (Value.int .u8)) rfl (hown.alloc _) ⟨wr.heap.size, 0, none⟩ 1 1 [.int .u8 x] rfl rfl (World.news_of_block (cs := #[.int .u8 x]) (t := 5) (fr := (0, 0)) (heap_alloc_new wr _)) k2 k3 k4 k5 k7 k6 hgx ?_; intro v' w3 hown3 hgrow; have hb3 : Below w.heap.size w w3 := (hbw.alloc (by omega) _).grown hgrow k5 (fun q hq => (hown.1.lt q hq).1))
      go_roundg (L.length - (k + 1))
      case measure => omega
      case rel =>
        refine ⟨k + 1, by omega, rfl, by go_num, ?_, hb3⟩
        rw [HST.out, List.length_append, List.map_append]; exact hown3
    · obtain rfl : k = L.length := by omega
      have hki : ¬ (L.length : Int) < (L.length : Int) := by omega
      rw [List.take_length] at hown
      go_wp2
      go_ret
      exact ⟨_, rfl, hown, hbw⟩
theorem copy_reads {w : World} {v : Value} {L : List Int} (h : Reads .u8 w v L) (hlen : L.length * 1 ≤ 140737488351232) :
    Calls Try.prog 20 #[v] w (NewList w L) := by
  obtain ⟨A, cap, rfl, hA⟩ := h
  exact copy_any A cap L w hA hlen
def mark : Int := 165
def lentL (L : List Int) : List Int := L ++ [mark, mark, mark, mark, mark]
theorem lentL_len (L : List Int) : (lentL L).length = L.length + 5 := by simp [lentL]
theorem lentL_step (L : List Int) (k : Nat) (hk : k < L.length + 5) : (lentL L).take (k + 1) = (lentL L).take k ++ [(lentL L).getD k 0] :=
  take_snoc_int _ _ (by rw [lentL_len]; exact hk)
theorem lentL_old (L : List Int) (k : Nat) (hk : k < L.length) : (lentL L).getD k 0 = L.getD k 0 := by
  rw [lentL, List.getD_eq_getElem?_getD, List.getElem?_append_left hk, List.getD_eq_getElem?_getD]
theorem lentL_mark (L : List Int) (k : Nat) (hk : L.length ≤ k) (h : k < L.length + 5) : (lentL L).getD k 0 = mark := by
  rw [lentL, List.getD_eq_getElem?_getD, List.getElem?_append_right hk]
  have : k - L.length = 0 ∨ k - L.length = 1 ∨ k - L.length = 2 ∨ k - L.length = 3 ∨ k - L.length = 4 := by omega
  rcases this with e | e | e | e | e <;> rw [e] <;> rfl

def LentBack (w : World) (L : List Int) (e : Ending) (w' : World) : Prop :=
  ∃ g, e = .returned (.slice (some ⟨g, 0, none⟩) L.length (L.length + 5)) ∧ w.heap.size ≤ g ∧ IRow .u8 5 w' g (L.length + 5) (lentL L) ∧ Below w.heap.size w w'

set_option maxHeartbeats 1000000 in
theorem lent_any (A : Option Addr) (cap : Nat) (L : List Int) (w : World) (hA : IntsAt .u8 w A L) (hlen : L.length * 1 ≤ 140737488351232) :
    Calls Try.prog 14 #[.slice A L.length cap] w (LentBack w L) := by
  obtain ⟨i0, hi0, hz0, hz1, hz2⟩ := info_parts infoE
  have hmk := fun W => run_make_rowN (P := Try.prog) 24 5 i0 _ Try.underlying24 hi0 hz0 .i64 .i64 (L.length + 5) (L.length + 5) (Nat.le_refl _) (by rw [hz2]; omega) (by omega) W
  have ec : ((L.length + 5 : Nat) : Int) = (L.length : Int) + 5 := by omega
  rw [ec, hz1, Nat.mul_one] at hmk
  simp only [Value.cells] at hmk
  clear hi0 hz0 hz1 hz2 ec
  have HA := Lib.hid hA
  clear hA
  have hB := IRow.made .u8 5 w (L.length + 5)
  have hb0 : Below w.heap.size w (w.alloc (.cells (madeCells #[.int .u8 0] (L.length + 5)) 5)) := (Below.refl _ _).alloc (Nat.le_refl _) _
  have HB := Lib.hid hB
  have H0 := Lib.hid hb0
  clear hB hb0
  go_enter Try.func14, Try.ntmps14
  go_wp2
  go_loopg [4] L.length (fun g i wr => ∃ k : Nat, k ≤ L.length ∧ g = L.length - k ∧ i = .int .i64 k ∧ IRow .u8 5 wr w.heap.size (L.length + 5) ((lentL L).take k) ∧ Below w.heap.size w wr)
  case atStart => exact ⟨0, Nat.zero_le _, rfl, rfl, by simpa using HB.out, H0.out⟩
  case round =>
    obtain ⟨k, hk, rfl, rfl, hblk, hbw⟩ := hrel
    have htl : ((lentL L).take k).length = k := by rw [List.length_take, lentL_len]; omega
    by_cases hlt : k < L.length
    · obtain ⟨b, off, rfl, hb, hS⟩ := HA.out (by omega)
      have h0 := (hbw.cell (p := ⟨b, off + k, none⟩) hb).trans (hS k hlt)
      have hst := lentL_step L k (by omega)
      rw [lentL_old L k hlt] at hst
      clear hS
      obtain ⟨x, hx⟩ : ∃ x, x = L.getD k 0 := ⟨_, rfl⟩
      rw [← hx] at h0 hst
      have hpush := hblk.push (by rw [htl]; omega) x
      rw [← hst, htl] at hpush
      have HST := Lib.hid hpush
      obtain ⟨z0, d0⟩ := hblk.any (j := k) (by omega)
      have f0 := hblk.frozen k
      have hlb := hblk.lt
      have hki : (k : Int) < (L.length : Int) := by omega
      have hk0 : (0 : Int) ≤ (k : Int) := by omega
      clear hblk hx hmk hpush hst htl
      go_wp2
      skip
      go_roundg (L.length - (k + 1))
      case measure => omega
      case rel => exact ⟨k + 1, by omega, rfl, by go_num, HST.out, by (repeat (first | (with_reducible assumption) | (with_reducible exact Below.refl _ _) | ((with_reducible refine Below.setCell ?_ ?_ _); rotate_left; · (first | omega | (simp; done) | (simp; omega) | (simp at *; omega))) | ((with_reducible refine Below.alloc ?_ ?_ _); rotate_left; · (first | omega | (simp; done) | (simp; omega) | (simp at *; omega))) | (with_reducible refine Below.drew ?_) | (with_reducible refine below_drewN ?_ _) | ((refine Below.trans ?_ (Below.mono (by with_reducible assumption) ?_)); rotate_left; · (first | omega | (simp; done) | (simp; omega) | (simp at *; omega)))))⟩
    · obtain rfl : k = L.length := by omega
      clear hmk htl
      have hki : ¬ (L.length : Int) < (L.length : Int) := by omega
      have HB2 := Lib.hid hblk
      clear hblk
      go_wp2
      go_loopg [5] 5 (fun g i wr => ∃ k : Nat, k ≤ L.length + 5 ∧ L.length ≤ k ∧ g = L.length + 5 - k ∧ i = .int .i64 k ∧ IRow .u8 5 wr w.heap.size (L.length + 5) ((lentL L).take k) ∧ Below w.heap.size w wr)
      case atStart => exact ⟨L.length, by omega, Nat.le_refl _, by omega, rfl, HB2.out, hbw⟩
      case round =>
        clear HB2 hbw
        obtain ⟨k, hk, hk1, rfl, rfl, hblk, hbw⟩ := hrel
        have htl : ((lentL L).take k).length = k := by rw [List.length_take, lentL_len]; omega
        by_cases hlt : k < L.length + 5
        · have hst := lentL_step L k (by omega)
          rw [lentL_mark L k hk1 hlt] at hst
          have hpush := hblk.push (by rw [htl]; omega) mark
          rw [← hst, htl] at hpush
          have HST := Lib.hid hpush
          obtain ⟨z0, d0⟩ := hblk.any (j := k) (by omega)
          have f0 := hblk.frozen k
          have hlb := hblk.lt
          have hki : (k : Int) < (L.length : Int) + 5 := by omega
          have hk0 : (0 : Int) ≤ (k : Int) := by omega
          clear hblk hpush hst htl
          go_wp2
          go_roundg (L.length + 5 - (k + 1))
          case measure => omega
          case rel => exact ⟨k + 1, by omega, by omega, rfl, by go_num, HST.out, by (repeat (first | (with_reducible assumption) | (with_reducible exact Below.refl _ _) | ((with_reducible refine Below.setCell ?_ ?_ _); rotate_left; · (first | omega | (simp; done) | (simp; omega) | (simp at *; omega))) | ((with_reducible refine Below.alloc ?_ ?_ _); rotate_left; · (first | omega | (simp; done) | (simp; omega) | (simp at *; omega))) | (with_reducible refine Below.drew ?_) | (with_reducible refine below_drewN ?_ _) | ((refine Below.trans ?_ (Below.mono (by with_reducible assumption) ?_)); rotate_left; · (first | omega | (simp; done) | (simp; omega) | (simp at *; omega)))))⟩
        · obtain rfl : k = L.length + 5 := by omega
          have hki : ¬ (((L.length + 5 : Nat) : Int) < (L.length : Int) + 5) := by omega
          rw [← lentL_len L, List.take_length, lentL_len L] at hblk
          have HR := Lib.hid hblk
          clear hblk htl
          go_wp2
          go_ret
          exact ⟨w.heap.size, by simp, Nat.le_refl _, HR.out, hbw⟩

theorem lent_begin {w : World} {g m : Nat} {L : List Int} (h : IRow .u8 5 w g m (lentL L)) : IntsAt .u8 w (some ⟨g, 0, none⟩) L := by
  intro hp
  obtain ⟨b, off, e, hlt, hc⟩ := h.at_ (by rw [lentL_len]; omega)
  refine ⟨b, off, e, hlt, fun i hi => ?_⟩
  have := hc i (by rw [lentL_len]; omega)
  rw [lentL_old L i hi] at this
  exact this

theorem kept_any (g ca : Nat) (B : Option Addr) (cb : Nat) (L : List Int) (w : World) (hblk : IRow .u8 5 w g (L.length + 5) (lentL L)) (hB : IntsAt .u8 w B L) (hlen : L.length ≤ 140737488351232) (hca : ca = L.length + 5) :
    Calls Try.prog 17 #[.slice (some ⟨g, 0, none⟩) L.length ca, .slice B L.length cb] w fun e w' => e = .returned (.bool true) ∧ Below w.heap.size w w' := by
  have hsame := same_any (some ⟨g, 0, none⟩) B ca cb L L w (lent_begin hblk) hB (by omega)
  have HS := Lib.hid (show Calls Try.prog 13 #[.slice (some ⟨g, 0, none⟩) L.length ca, .slice B L.length cb] w (fun (e : Ending) w' => e = .returned (.bool true) ∧ Below w.heap.size w w') from
    hsame.mono fun _ _ ⟨he, hb⟩ => ⟨by rw [he, decide_eq_true rfl], hb⟩)
  have HB := Lib.hid hblk
  clear hsame hblk hB
  subst hca
  go_enter Try.func17, Try.ntmps17
  go_wp2_with (go_at_call 13; refine (HS.out).mono ?_; rintro e w1 ⟨rfl, hb1⟩)
  go_loopg [6] 5 (fun g' i wr => ∃ k : Nat, k ≤ L.length + 5 ∧ L.length ≤ k ∧ g' = L.length + 5 - k ∧ i = .int .i64 k ∧ Below w.heap.size w wr)
  case atStart => exact ⟨L.length, by omega, Nat.le_refl _, by omega, rfl, hb1⟩
  case round =>
    obtain ⟨k, hk, hk1, rfl, rfl, hbw⟩ := hrel
    by_cases hlt : k < L.length + 5
    · have d0 := (HB.out.below hbw HB.out.lt).cell (i := k) (by rw [lentL_len]; exact hlt)
      rw [lentL_mark L k hk1 hlt] at d0
      simp only [mark] at d0
      have hki : (k : Int) < (L.length : Int) + 5 := by omega
      have hk0 : (0 : Int) ≤ (k : Int) := by omega
      go_wp2
      go_roundg (L.length + 5 - (k + 1))
      case measure => omega
      case rel => exact ⟨k + 1, by omega, by omega, rfl, by go_num, by (repeat (first | (with_reducible assumption) | (with_reducible exact Below.refl _ _) | ((with_reducible refine Below.setCell ?_ ?_ _); rotate_left; · (first | omega | (simp; done) | (simp; omega) | (simp at *; omega))) | ((with_reducible refine Below.alloc ?_ ?_ _); rotate_left; · (first | omega | (simp; done) | (simp; omega) | (simp at *; omega))) | (with_reducible refine Below.drew ?_) | (with_reducible refine below_drewN ?_ _) | ((refine Below.trans ?_ (Below.mono (by with_reducible assumption) ?_)); rotate_left; · (first | omega | (simp; done) | (simp; omega) | (simp at *; omega)))))⟩
    · obtain rfl : k = L.length + 5 := by omega
      have hki : ¬ (((L.length + 5 : Nat) : Int) < (L.length : Int) + 5) := by omega
      go_wp2
      go_ret
      exact ⟨rfl, hbw⟩
end Bytes
end Go.Proofs.Ytognidoohinipaa
