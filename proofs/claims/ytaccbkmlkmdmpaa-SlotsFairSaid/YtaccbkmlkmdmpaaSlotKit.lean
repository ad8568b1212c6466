/-
  What is proved here: lists of slots that are lent, and looked at again (package outstationkit), and Pick. Conditions: none beyond each theorem's own.
-/
import Derived.Test.YtaccbkmlkmdmpaaSlotEq
import Derived.Laws.MakeOwn
namespace Go.Proofs.Ytaccbkmlkmdmpaa
open Go.RowKit Go.Deep
attribute [local go_sem high] eq_slot ne_slot eq3_self

theorem run_make_rowN {P : Program} (t e : TypeId) (i : TypeInfo) (z : Value) (ht : P.underlying t = some (.slice e)) (hi : P.info? e = some i) (hz : i.zero = some z)
    (kl kc : IntKind) (n c : Nat) (hnc : n ≤ c) (hbytes : i.bytes * c ≤ 281474976710656) (h63 : c ≤ 9223372036854775807) (w : World) :
    (Instr.makeSlice t (.int kl (n : Int)) (.int kc (c : Int))).run P w = .ok (.slice (some ⟨w.heap.size, 0, none⟩) n c) (w.alloc (.cells (madeCells z.cells (c * i.size)) e)) := by
  have hb : (i.bytes : Int) * (c : Int) ≤ 281474976710656 := by
    have h : ((i.bytes * c : Nat) : Int) ≤ 281474976710656 := by omega
    rwa [Int.natCast_mul] at h
  have hr := run_make (P := P) w t e i z ht hi hz kl kc n c (by omega) (by omega) hb (by omega)
  simp only [Int.toNat_natCast] at hr
  exact hr

/-- A block of slots: cell by cell, none frozen. -/
def SlotBlk (w : World) (g m : Nat) (F : Nat → Slot) : Prop :=
  ∃ cs, Blk w g 29 cs ∧ cs.size = m * 3 ∧ ∀ i, i < m → cs[i * 3]? = some (.int .i64 (F i).e) ∧ cs[i * 3 + 1]? = some (.int .i64 (F i).n) ∧ cs[i * 3 + 2]? = some (.int .i64 (F i).f)

section
variable {w w' : World} {g m : Nat} {F : Nat → Slot}
theorem SlotBlk.cells (h : SlotBlk w g m F) {i : Nat} (hi : i < m) : w.cell? ⟨g, i * 3, none⟩ = some (.int .i64 (F i).e) ∧ w.cell? ⟨g, i * 3 + 1, none⟩ = some (.int .i64 (F i).n) ∧ w.cell? ⟨g, i * 3 + 2, none⟩ = some (.int .i64 (F i).f) := by
  obtain ⟨cs, hb, _, hc⟩ := h
  obtain ⟨c0, c1, c2⟩ := hc i hi
  exact ⟨(hb.cell _).trans c0, (hb.cell _).trans c1, (hb.cell _).trans c2⟩
theorem SlotBlk.frozen (h : SlotBlk w g m F) (o : Nat) : w.frozen? ⟨g, o, none⟩ = false := by
  obtain ⟨cs, hb, _, _⟩ := h
  exact hb.frozen o
theorem SlotBlk.lt (h : SlotBlk w g m F) : g < w.heap.size := by
  obtain ⟨cs, hb, _, _⟩ := h
  exact hb.lt
theorem SlotBlk.below {B : Nat} (h : SlotBlk w g m F) (hb : Below B w w') (hg : g < B) : SlotBlk w' g m F := by
  obtain ⟨cs, h1, h2, h3⟩ := h
  exact ⟨cs, h1.below hb hg, h2, h3⟩
theorem SlotBlk.drew (h : SlotBlk w g m F) : SlotBlk w.drew g m F := h
theorem SlotBlk.alloc (h : SlotBlk w g m F) (o : Obj) : SlotBlk (w.alloc o) g m F := by
  obtain ⟨cs, h1, h2, h3⟩ := h
  exact ⟨cs, h1.alloc o, h2, h3⟩
theorem SlotBlk.store (h : SlotBlk w g m F) {i : Nat} (hi : i < m) (s : Slot) :
    SlotBlk (((w.setCell ⟨g, i * 3, none⟩ (.int .i64 s.e)).setCell ⟨g, i * 3 + 1, none⟩ (.int .i64 s.n)).setCell ⟨g, i * 3 + 2, none⟩ (.int .i64 s.f)) g m (fun j => if j = i then s else F j) := by
  obtain ⟨cs, h1, h2, h3⟩ := h
  refine ⟨_, ((h1.set_ _ _).set_ _ _).set_ _ _, by simp [h2], fun j hj => ?_⟩
  obtain ⟨c0, c1, c2⟩ := h3 j hj
  by_cases e : j = i
  · subst e
    simp only [if_true]
    refine ⟨?_, ?_, ?_⟩
    · rw [Array.getElem?_setIfInBounds_ne (by omega), Array.getElem?_setIfInBounds_ne (by omega), Array.getElem?_setIfInBounds_self_of_lt (by omega)]
    · rw [Array.getElem?_setIfInBounds_ne (by omega), Array.getElem?_setIfInBounds_self_of_lt (by simp; omega)]
    · rw [Array.getElem?_setIfInBounds_self_of_lt (by simp; omega)]
  · simp only [if_neg e]
    refine ⟨?_, ?_, ?_⟩
    · rw [Array.getElem?_setIfInBounds_ne (by omega), Array.getElem?_setIfInBounds_ne (by omega), Array.getElem?_setIfInBounds_ne (by omega)]; exact c0
    · rw [Array.getElem?_setIfInBounds_ne (by omega), Array.getElem?_setIfInBounds_ne (by omega), Array.getElem?_setIfInBounds_ne (by omega)]; exact c1
    · rw [Array.getElem?_setIfInBounds_ne (by omega), Array.getElem?_setIfInBounds_ne (by omega), Array.getElem?_setIfInBounds_ne (by omega)]; exact c2
theorem SlotBlk.congr {G : Nat → Slot} (h : SlotBlk w g m F) (e : ∀ i, i < m → F i = G i) : SlotBlk w g m G := by
  obtain ⟨cs, h1, h2, h3⟩ := h
  exact ⟨cs, h1, h2, fun i hi => by rw [← e i hi]; exact h3 i hi⟩
theorem SlotBlk.at_ {L : List Slot} (h : SlotBlk w g m F) (hl : L.length ≤ m) (e : ∀ i, i < L.length → F i = L.getD i ⟨0, 0, 0⟩) : SlotsAt w (some ⟨g, 0, none⟩) L := by
  intro _
  refine ⟨g, 0, rfl, h.lt, fun i hi => ?_⟩
  have := h.cells (i := i) (by omega)
  rw [e i hi] at this
  simpa using this
end

theorem made3 (a b c : Value) (n : Nat) : (madeCells #[a, b, c] (n * 3)).size = n * 3 ∧ ∀ i, i < n → (madeCells #[a, b, c] (n * 3))[i * 3]? = some a ∧ (madeCells #[a, b, c] (n * 3))[i * 3 + 1]? = some b ∧ (madeCells #[a, b, c] (n * 3))[i * 3 + 2]? = some c := by
  refine ⟨size_madeCells _ _, fun i hi => ?_⟩
  have e0 : i * 3 % 3 = 0 := by omega
  have e1 : (i * 3 + 1) % 3 = 1 := by omega
  have e2 : (i * 3 + 2) % 3 = 2 := by omega
  refine ⟨?_, ?_, ?_⟩
  · rw [Array.getElem?_eq_getElem (by rw [size_madeCells]; omega)]; simp [madeCells, e0]
  · rw [Array.getElem?_eq_getElem (by rw [size_madeCells]; omega)]; simp [madeCells, e1]
  · rw [Array.getElem?_eq_getElem (by rw [size_madeCells]; omega)]; simp [madeCells, e2]

theorem SlotBlk.made (w : World) (n : Nat) : SlotBlk (w.alloc (.cells (madeCells #[.int .i64 0, .int .i64 0, .int .i64 0] (n * 3)) 29)) w.heap.size n (fun _ => ⟨0, 0, 0⟩) :=
  ⟨_, Blk.new _ _ _, (made3 _ _ _ n).1, fun i hi => (made3 _ _ _ n).2 i hi⟩

theorem info29 : (Try.prog.info? 29).map (fun i => (i.zero, i.size, i.bytes)) = some (some (.agg #[.int .i64 0, .int .i64 0, .int .i64 0]), 3, 24) := by kernel_rfl

/-- what is lent. -/
def lentF (L : List Slot) (k : Nat) : Nat → Slot := fun i => if i < k then (if i < L.length then L.getD i ⟨0, 0, 0⟩ else ⟨-77, 0, 0⟩) else ⟨0, 0, 0⟩
def LentBack (w : World) (L : List Slot) (e : Ending) (w' : World) : Prop :=
  ∃ g, e = .returned (.slice (some ⟨g, 0, none⟩) L.length (L.length + 5)) ∧ w.heap.size ≤ g ∧ SlotBlk w' g (L.length + 5) (lentF L (L.length + 5)) ∧ Below w.heap.size w w'

theorem lentF_step (L : List Slot) (k : Nat) (s : Slot) (h : s = if k < L.length then L.getD k ⟨0, 0, 0⟩ else ⟨-77, 0, 0⟩) (i : Nat) : (if i = k then s else lentF L k i) = lentF L (k + 1) i := by
  unfold lentF
  by_cases e : i = k
  · subst e; rw [if_pos rfl, if_pos (by omega), h]
  · rw [if_neg e]
    by_cases h1 : i < k
    · simp [h1, show i < k + 1 by omega]
    · simp [h1, show ¬ i < k + 1 by omega]

set_option maxHeartbeats 1000000 in
theorem lent_any (A : Option Addr) (cap : Nat) (L : List Slot) (w : World) (hA : SlotsAt w A L) (hlen : L.length * 24 ≤ 140737488351232) :
    Calls Try.prog 9 #[.slice A L.length cap] w (LentBack w L) := by
  obtain ⟨i0, hi0, hz0, hz1, hz2⟩ := info_parts info29
  have hmk := fun W => run_make_rowN (P := Try.prog) 22 29 i0 _ Try.underlying22 hi0 hz0 .i64 .i64 (L.length + 5) (L.length + 5) (Nat.le_refl _) (by rw [hz2]; omega) (by omega) W
  have ec : ((L.length + 5 : Nat) : Int) = (L.length : Int) + 5 := by omega
  rw [ec, hz1] at hmk
  simp only [Value.cells] at hmk
  clear hi0 hz0 hz1 hz2 ec
  have HA := Lib.hid hA
  clear hA
  have hB := SlotBlk.made w (L.length + 5)
  have hb0 : Below w.heap.size w (w.alloc (.cells (madeCells #[.int .i64 0, .int .i64 0, .int .i64 0] ((L.length + 5) * 3)) 29)) := (Below.refl _ _).alloc (Nat.le_refl _) _
  have HB := Lib.hid hB
  have H0 := Lib.hid hb0
  clear hB hb0
  go_enter Try.func9, Try.ntmps9
  go_wp2
  go_loopg [4] L.length (fun g i wr => ∃ k : Nat, k ≤ L.length ∧ g = L.length - k ∧ i = .int .i64 k ∧ SlotBlk wr w.heap.size (L.length + 5) (lentF L k) ∧ Below w.heap.size w wr)
  case atStart => exact ⟨0, Nat.zero_le _, rfl, rfl, HB.out.congr (fun i _ => by simp [lentF]), H0.out⟩
  case round =>
    obtain ⟨k, hk, rfl, rfl, hblk, hbw⟩ := hrel
    by_cases hlt : k < L.length
    · obtain ⟨b, off, rfl, hb, hS⟩ := HA.out (by omega)
      obtain ⟨c0, c1, c2⟩ := hS k hlt
      have h0 := (hbw.cell (p := ⟨b, off + k * 3, none⟩) hb).trans c0
      have h1 := (hbw.cell (p := ⟨b, off + k * 3 + 1, none⟩) hb).trans c1
      have h2 := (hbw.cell (p := ⟨b, off + k * 3 + 2, none⟩) hb).trans c2
      clear c0 c1 c2 hS
      obtain ⟨x, hx⟩ : ∃ x, x = L.getD k ⟨0, 0, 0⟩ := ⟨_, rfl⟩
      rw [← hx] at h0 h1 h2
      have HST := Lib.hid ((hblk.store (i := k) (by omega) x).congr (fun i _ => lentF_step L k x (by rw [if_pos hlt]; exact hx) i))
      obtain ⟨d0, d1, d2⟩ := hblk.cells (i := k) (by omega)
      have f0 := hblk.frozen (k * 3)
      have f1 := hblk.frozen (k * 3 + 1)
      have f2 := hblk.frozen (k * 3 + 2)
      have hlb := hblk.lt
      have hki : (k : Int) < (L.length : Int) := by omega
      have hk0 : (0 : Int) ≤ (k : Int) := by omega
      clear hblk hx hmk
      go_wp2
      go_roundg (L.length - (k + 1))
      case measure => omega
      case rel => exact ⟨k + 1, by omega, rfl, by go_num, HST.out, by (repeat (first | (with_reducible assumption) | (with_reducible exact Below.refl _ _) | ((with_reducible refine Below.setCell ?_ ?_ _); rotate_left; · (first | omega | (simp; done) | (simp; omega) | (simp at *; omega))) | ((with_reducible refine Below.alloc ?_ ?_ _); rotate_left; · (first | omega | (simp; done) | (simp; omega) | (simp at *; omega))) | (with_reducible refine Below.drew ?_) | (with_reducible refine below_drewN ?_ _) | ((refine Below.trans ?_ (Below.mono (by with_reducible assumption) ?_)); rotate_left; · (first | omega | (simp; done) | (simp; omega) | (simp at *; omega)))))⟩
    · obtain rfl : k = L.length := by omega
      clear hmk
      have hki : ¬ (L.length : Int) < (L.length : Int) := by omega
      go_wp2
      go_loopg [5] 5 (fun g i wr => ∃ k : Nat, k ≤ L.length + 5 ∧ L.length ≤ k ∧ g = L.length + 5 - k ∧ i = .int .i64 k ∧ SlotBlk wr w.heap.size (L.length + 5) (lentF L k) ∧ Below w.heap.size w wr)
      case atStart => exact ⟨L.length, by omega, Nat.le_refl _, by omega, rfl, hblk, hbw⟩
      case round =>
        clear hblk hbw
        obtain ⟨k, hk, hk1, rfl, rfl, hblk, hbw⟩ := hrel
        by_cases hlt : k < L.length + 5
        · have HST := Lib.hid ((hblk.store (i := k) (by omega) ⟨-77, 0, 0⟩).congr (fun i _ => lentF_step L k ⟨-77, 0, 0⟩ (by rw [if_neg (by omega)]) i))
          obtain ⟨d0, d1, d2⟩ := hblk.cells (i := k) (by omega)
          have f0 := hblk.frozen (k * 3)
          have f1 := hblk.frozen (k * 3 + 1)
          have f2 := hblk.frozen (k * 3 + 2)
          have hlb := hblk.lt
          have hki : (k : Int) < (L.length : Int) + 5 := by omega
          have hk0 : (0 : Int) ≤ (k : Int) := by omega
          clear hblk
          go_wp2
          go_roundg (L.length + 5 - (k + 1))
          case measure => omega
          case rel => exact ⟨k + 1, by omega, by omega, rfl, by go_num, HST.out, by (repeat (first | (with_reducible assumption) | (with_reducible exact Below.refl _ _) | ((with_reducible refine Below.setCell ?_ ?_ _); rotate_left; · (first | omega | (simp; done) | (simp; omega) | (simp at *; omega))) | ((with_reducible refine Below.alloc ?_ ?_ _); rotate_left; · (first | omega | (simp; done) | (simp; omega) | (simp at *; omega))) | (with_reducible refine Below.drew ?_) | (with_reducible refine below_drewN ?_ _) | ((refine Below.trans ?_ (Below.mono (by with_reducible assumption) ?_)); rotate_left; · (first | omega | (simp; done) | (simp; omega) | (simp at *; omega)))))⟩
        · obtain rfl : k = L.length + 5 := by omega
          have hki : ¬ (((L.length + 5 : Nat) : Int) < (L.length : Int) + 5) := by omega
          go_wp2
          go_ret
          exact ⟨w.heap.size, by simp, Nat.le_refl _, hblk, hbw⟩

theorem ext_getD {L M : List Slot} (hl : L.length = M.length) (h : ∀ j, j < L.length → L.getD j ⟨0, 0, 0⟩ = M.getD j ⟨0, 0, 0⟩) : L = M := by
  apply List.ext_getElem hl
  intro i h1 h2
  have := h i h1
  simpa [h1, h2] using this

theorem same_slots (A B : Option Addr) (ca cb : Nat) (L M : List Slot) (w : World) (hA : SlotsAt w A L) (hB : SlotsAt w B M) (hlen : L.length ≤ 140737488351232) :
    Calls Try.prog 22 #[.slice A L.length ca, .slice B M.length cb] w fun e w' => e = .returned (.bool (decide (L = M))) ∧ Below w.heap.size w w' := by
  by_cases hl : L.length = M.length
  · have HA := Lib.hid hA
    have HB := Lib.hid hB
    clear hA hB
    rw [← hl]
    have HL := Lib.hid hl
    clear hl
    go_enter Try.func22, Try.ntmps22
    go_wp2
    go_loopg [5] L.length (fun g i wr => ∃ k : Nat, k ≤ L.length ∧ g = L.length - k ∧ i = .int .i64 k ∧ (∀ j, j < k → L.getD j ⟨0, 0, 0⟩ = M.getD j ⟨0, 0, 0⟩) ∧ Below w.heap.size w wr)
    case atStart => exact ⟨0, Nat.zero_le _, rfl, rfl, fun j hj => absurd hj (by omega), Below.refl _ _⟩
    case round =>
      obtain ⟨k, hk, rfl, rfl, hsame, hbw⟩ := hrel
      have HSM := Lib.hid hsame
      clear hsame
      by_cases hlt : k < L.length
      · obtain ⟨b, off, rfl, hb, hS⟩ := HA.out (by omega)
        have hlM : L.length = M.length := HL.out
        obtain ⟨b', off', rfl, hb', hS'⟩ := HB.out (by omega)
        obtain ⟨c0, c1, c2⟩ := hS k hlt
        obtain ⟨d0, d1, d2⟩ := hS' k (by omega)
        have h0 := (hbw.cell (p := ⟨b, off + k * 3, none⟩) hb).trans c0
        have h1 := (hbw.cell (p := ⟨b, off + k * 3 + 1, none⟩) hb).trans c1
        have h2 := (hbw.cell (p := ⟨b, off + k * 3 + 2, none⟩) hb).trans c2
        have e0 := (hbw.cell (p := ⟨b', off' + k * 3, none⟩) hb').trans d0
        have e1 := (hbw.cell (p := ⟨b', off' + k * 3 + 1, none⟩) hb').trans d1
        have e2 := (hbw.cell (p := ⟨b', off' + k * 3 + 2, none⟩) hb').trans d2
        clear c0 c1 c2 d0 d1 d2 hS hS' hlM
        obtain ⟨x, hx⟩ : ∃ x, x = L.getD k ⟨0, 0, 0⟩ := ⟨_, rfl⟩
        rw [← hx] at h0 h1 h2
        obtain ⟨y, hy⟩ : ∃ y, y = M.getD k ⟨0, 0, 0⟩ := ⟨_, rfl⟩
        rw [← hy] at e0 e1 e2
        have HX := Lib.hid hx
        have HY := Lib.hid hy
        clear hx hy
        have hki : (k : Int) < (L.length : Int) := by omega
        have hk0 : (0 : Int) ≤ (k : Int) := by omega
        by_cases hxy : x = y
        · subst hxy
          go_wp2
          go_quiet (fail)
          go_wp2
          go_roundg (L.length - (k + 1))
          case measure => omega
          case rel =>
            refine ⟨k + 1, by omega, rfl, by go_num, fun j hj => ?_, by (repeat (first | (with_reducible assumption) | (with_reducible exact Below.refl _ _) | ((with_reducible refine Below.setCell ?_ ?_ _); rotate_left; · (first | omega | (simp; done) | (simp; omega) | (simp at *; omega))) | ((with_reducible refine Below.alloc ?_ ?_ _); rotate_left; · (first | omega | (simp; done) | (simp; omega) | (simp at *; omega))) | (with_reducible refine Below.drew ?_) | (with_reducible refine below_drewN ?_ _) | ((refine Below.trans ?_ (Below.mono (by with_reducible assumption) ?_)); rotate_left; · (first | omega | (simp; done) | (simp; omega) | (simp at *; omega)))))⟩
            by_cases e : j = k
            · rw [e, ← HX.out, ← HY.out]
            · exact HSM.out j (by omega)
        · have hne : eq3 x.e x.n x.f y.e y.n y.f = false := by rw [eq3_iff]; exact decide_eq_false hxy
          have HXY := Lib.hid hxy
          clear hxy
          go_wp2
          go_quiet (fail)
          go_wp2
          go_ret
          exact ⟨ret_bool (decide_eq_false (fun e => HXY.out (by rw [HX.out, HY.out, e]))).symm, by (repeat (first | (with_reducible assumption) | (with_reducible exact Below.refl _ _) | ((with_reducible refine Below.setCell ?_ ?_ _); rotate_left; · (first | omega | (simp; done) | (simp; omega) | (simp at *; omega))) | ((with_reducible refine Below.alloc ?_ ?_ _); rotate_left; · (first | omega | (simp; done) | (simp; omega) | (simp at *; omega))) | (with_reducible refine Below.drew ?_) | (with_reducible refine below_drewN ?_ _) | ((refine Below.trans ?_ (Below.mono (by with_reducible assumption) ?_)); rotate_left; · (first | omega | (simp; done) | (simp; omega) | (simp at *; omega)))))⟩
      · obtain rfl : k = L.length := by omega
        have hki : ¬ (L.length : Int) < (L.length : Int) := by omega
        go_wp2
        go_ret
        exact ⟨ret_bool (decide_eq_true (ext_getD HL.out HSM.out)).symm, hbw⟩
  · have hne : ((L.length : Int) == (M.length : Int)) = false := by rw [beq_eq_false_iff_ne]; omega
    have hne' : ((L.length : Int) != (M.length : Int)) = true := by rw [bne_iff_ne]; omega
    have HL := Lib.hid hl
    clear hl hA hB
    go_enter Try.func22, Try.ntmps22
    go_wp2
    go_ret
    exact ⟨ret_bool (decide_eq_false (fun e => HL.out (by rw [e]))).symm, Below.refl _ _⟩

/-- a list that was lent, and its marks, as they were. -/
theorem kept_any (g ca : Nat) (B : Option Addr) (cb : Nat) (L : List Slot) (w : World) (hblk : SlotBlk w g (L.length + 5) (lentF L (L.length + 5))) (hB : SlotsAt w B L) (hlen : L.length ≤ 140737488351000) (hca : ca = L.length + 5) :
    Calls Try.prog 14 #[.slice (some ⟨g, 0, none⟩) L.length ca, .slice B L.length cb] w fun e w' => e = .returned (.bool true) ∧ Below w.heap.size w w' := by
  have hsame := same_slots (some ⟨g, 0, none⟩) B ca cb L L w (hblk.at_ (by omega) (fun i hi => by simp [lentF, show i < L.length + 5 by omega, hi])) hB (by omega)
  have HS := Lib.hid (show Calls Try.prog 22 #[.slice (some ⟨g, 0, none⟩) L.length ca, .slice B L.length cb] w (fun (e : Ending) w' => e = .returned (.bool true) ∧ Below w.heap.size w w') from
    hsame.mono fun _ _ ⟨he, hb⟩ => ⟨by rw [he, decide_eq_true rfl], hb⟩)
  have HB := Lib.hid hblk
  clear hsame hblk hB
  subst hca
  go_enter Try.func14, Try.ntmps14
  go_wp2_with (go_at_call 22; refine (HS.out).mono ?_; rintro e w1 ⟨rfl, hb1⟩)
  go_loopg [6] 5 (fun g' i wr => ∃ k : Nat, k ≤ L.length + 5 ∧ L.length ≤ k ∧ g' = L.length + 5 - k ∧ i = .int .i64 k ∧ Below w.heap.size w wr)
  case atStart => exact ⟨L.length, by omega, Nat.le_refl _, by omega, rfl, hb1⟩
  case round =>
    obtain ⟨k, hk, hk1, rfl, rfl, hbw⟩ := hrel
    by_cases hlt : k < L.length + 5
    · obtain ⟨d0, d1, d2⟩ := (HB.out.below hbw HB.out.lt).cells (i := k) (by omega)
      have hF : lentF L (L.length + 5) k = ⟨-77, 0, 0⟩ := by simp [lentF, hlt, show ¬ k < L.length by omega]
      rw [hF] at d0 d1 d2
      simp only at d0 d1 d2
      have hki : (k : Int) < (L.length : Int) + 5 := by omega
      have hk0 : (0 : Int) ≤ (k : Int) := by omega
      clear hF
      go_wp2
      go_roundg (L.length + 5 - (k + 1))
      case measure => omega
      case rel => exact ⟨k + 1, by omega, by omega, rfl, by go_num, by (repeat (first | (with_reducible assumption) | (with_reducible exact Below.refl _ _) | ((with_reducible refine Below.setCell ?_ ?_ _); rotate_left; · (first | omega | (simp; done) | (simp; omega) | (simp at *; omega))) | ((with_reducible refine Below.alloc ?_ ?_ _); rotate_left; · (first | omega | (simp; done) | (simp; omega) | (simp at *; omega))) | (with_reducible refine Below.drew ?_) | (with_reducible refine below_drewN ?_ _) | ((refine Below.trans ?_ (Below.mono (by with_reducible assumption) ?_)); rotate_left; · (first | omega | (simp; done) | (simp; omega) | (simp at *; omega)))))⟩
    · obtain rfl : k = L.length + 5 := by omega
      have hki : ¬ (((L.length + 5 : Nat) : Int) < (L.length : Int) + 5) := by omega
      go_wp2
      go_ret
      exact ⟨rfl, hbw⟩

/-- Pick. -/
def pickM (k n : Int) : Int := if n < 1 then 0 else k % n
theorem pick_down (k n : Int) (hn : 1 ≤ n) : -n < k.tmod n ∧ k.tmod n < n ∧ (k.tmod n < 0 → k.tmod n + n = k % n) ∧ (0 ≤ k.tmod n → k.tmod n = k % n) := by
  have e1 := Int.emod_nonneg k (show n ≠ 0 by omega)
  have e2 := Int.emod_lt_of_pos k (show 0 < n by omega)
  by_cases hk : 0 ≤ k
  · rw [Int.tmod_eq_emod_of_nonneg hk]
    exact ⟨by omega, by omega, by omega, fun _ => rfl⟩
  · have hm : k.tmod n = -((-k) % n) := by
      have : k = -(-k) := by omega
      conv => lhs; rw [this]
      rw [Int.neg_tmod, Int.tmod_eq_emod_of_nonneg (by omega)]
    have r1 := Int.emod_nonneg (-k) (show n ≠ 0 by omega)
    have r2 := Int.emod_lt_of_pos (-k) (show 0 < n by omega)
    have r3 := Int.mul_ediv_add_emod (-k) n
    have r4 : k % n = (-((-k) % n)) % n := by
      have : k = -((-k) % n) + n * (-((-k) / n)) := by rw [Int.mul_neg]; omega
      conv => lhs; rw [this]
      exact Int.add_mul_emod_self_left _ _ _
    rw [hm, r4]
    generalize (-k) % n = r at *
    refine ⟨by omega, by omega, fun h => ?_, fun h => ?_⟩
    · have : (-r) % n = (-r + n) % n := by simp
      rw [this, Int.emod_eq_of_lt (by omega) (by omega)]
    · have : r = 0 := by omega
      subst this
      simp
theorem pick_any (k n : Int) (w : World) (h3 : n ≤ 9223372036854775807) :
    Calls Try.prog 21 #[.int .i64 k, .int .i64 n] w fun e w' => e = .returned (.int .i64 (pickM k n)) ∧ w' = w := by
  by_cases hn : n < 1
  · go_enter Try.func21, Try.ntmps21
    go_wp2
    go_ret
    exact ⟨ret_int (by simp [pickM]; omega), rfl⟩
  · obtain ⟨p1, p2, p3, p4⟩ := pick_down k n (by omega)
    have H3 := Lib.hid p3
    have H4 := Lib.hid p4
    have hm : pickM k n = k % n := if_neg hn
    rw [hm]
    clear p3 p4 hm
    by_cases hneg : k.tmod n < 0
    · go_enter Try.func21, Try.ntmps21
      go_wp2
      go_ret
      exact ⟨ret_int (by first | exact H3.out hneg | (rw [IntWalk.wrap64_in _ (by omega)]; exact H3.out hneg)), rfl⟩
    · go_enter Try.func21, Try.ntmps21
      go_wp2
      go_ret
      exact ⟨ret_int (H4.out (by omega)), rfl⟩
end Go.Proofs.Ytaccbkmlkmdmpaa
