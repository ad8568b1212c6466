/-
  What is proved here: the law SlotsDone returns true for every slot and every time. Conditions: none.
-/
import Derived.Test.YtaccbkmlkmdmpaaSlotRef
import Derived.Test.YtaccbkmlkmdmpaaSlotEq
import Derived.Test.YtaccbkmlkmdmpaaSlotOpen
import Derived.Deep.RegionHeld3
namespace Go.Proofs.Ytaccbkmlkmdmpaa
namespace SlotsDone
open Go.ChangeShapes Go.WideShapes Go.ChangeAt Go.RowKit Go.Deep
attribute [local go_sem high] eq_slot ne_slot eq3_self

set_option maxHeartbeats 2000000 in
theorem walk (s : Slot) (now : Int) (w : World) :
    Calls Try.prog 4 #[.agg #[.int .i64 s.e, .int .i64 s.n, .int .i64 s.f], .int .i64 now] w fun e w' => e = .returned (.bool true) ∧ Below w.heap.size w w' := by
  go_enter Try.func4, Try.ntmps4
  go_wp2_with fail
  refine (new_any s.e now _).mono ?_
  rintro e w1 ⟨rfl, hb1⟩
  have B0 := (Blk.new w 29 #[.int .i64 s.e, .int .i64 s.n, .int .i64 s.f]).below hb1 (by first | omega | (simp; done) | (simp; omega) | (simp at *; omega))
  obtain ⟨c0, c1, c2, _, _, _⟩ := B0.three
  have hw1 := hb1.size
  simp only [World.size_alloc] at hw1
  have hl1 : w.heap.size < w1.heap.size := by omega
  go_wp2_with fail
  refine (rnew_any s.e now _).mono ?_
  rintro e w2 ⟨rfl, hb2⟩
  have hw2 := hb2.size
  simp only [World.size_alloc] at hw2
  have hl2 : w1.heap.size < w2.heap.size := by omega
  have hl3 : w.heap.size < w2.heap.size := by omega
  have B1 := (B0.alloc (.cells #[.int .i64 (newSlot s.e now).e, .int .i64 (newSlot s.e now).n, .int .i64 (newSlot s.e now).f] 29)).below hb2 (by first | omega | (simp; done) | (simp; omega) | (simp at *; omega))
  have B2 := (Blk.new w1 29 #[.int .i64 (newSlot s.e now).e, .int .i64 (newSlot s.e now).n, .int .i64 (newSlot s.e now).f]).below hb2 (by first | omega | (simp; done) | (simp; omega) | (simp at *; omega))
  obtain ⟨e0, e1, e2, _, _, _⟩ := B1.three
  obtain ⟨f0, f1, f2, _, _, _⟩ := B2.three
  clear B0 c0 c1 c2
  go_wp2_with fail
  have hz3 : w2.heap.size < (w2.alloc (.cells #[.int .i64 (newSlot s.e now).e, .int .i64 (newSlot s.e now).n, .int .i64 (newSlot s.e now).f] 29)).heap.size := by simp
  have hbw : Below w.heap.size w (w2.alloc (.cells #[.int .i64 (newSlot s.e now).e, .int .i64 (newSlot s.e now).n, .int .i64 (newSlot s.e now).f] 29)) := by
    have hb1' : Below w.heap.size w w1 := ((Below.refl _ _).alloc (Nat.le_refl _) _).trans (hb1.mono (by first | omega | (simp; done) | (simp; omega) | (simp at *; omega)))
    have hb2' : Below w.heap.size w1 w2 := ((Below.refl _ _).alloc (by omega) _).trans (hb2.mono (by first | omega | (simp; done) | (simp; omega) | (simp at *; omega)))
    exact (hb1'.trans hb2').alloc (by omega) _
  obtain ⟨W, hW⟩ : ∃ W, W = w2.alloc (.cells #[.int .i64 (newSlot s.e now).e, .int .i64 (newSlot s.e now).n, .int .i64 (newSlot s.e now).f] 29) := ⟨_, rfl⟩
  have B3 := (B1.alloc (.cells #[.int .i64 (newSlot s.e now).e, .int .i64 (newSlot s.e now).n, .int .i64 (newSlot s.e now).f] 29))
  have B4 := (B2.alloc (.cells #[.int .i64 (newSlot s.e now).e, .int .i64 (newSlot s.e now).n, .int .i64 (newSlot s.e now).f] 29))
  have B5 := Blk.new w2 29 #[.int .i64 (newSlot s.e now).e, .int .i64 (newSlot s.e now).n, .int .i64 (newSlot s.e now).f]
  rw [← hW] at hz3 hbw B3 B4 B5 ⊢
  clear hW e0 e1 e2 f0 f1 f2 B1 B2
  obtain ⟨e0, e1, e2, _, _, _⟩ := B3.three
  obtain ⟨f0, f1, f2, _, _, _⟩ := B4.three
  obtain ⟨g0, g1, g2, _, _, _⟩ := B5.three
  clear B3 B4 B5
  go_region_held3 (fun w' => w'.cell? ⟨w.heap.size, 0, none⟩ = some (.int .i64 s.e) ∧ w'.cell? ⟨w.heap.size, 1, none⟩ = some (.int .i64 s.n) ∧ w'.cell? ⟨w.heap.size, 2, none⟩ = some (.int .i64 s.f) ∧
      w'.cell? ⟨w1.heap.size, 0, none⟩ = some (.int .i64 (newSlot s.e now).e) ∧ w'.cell? ⟨w1.heap.size, 1, none⟩ = some (.int .i64 (newSlot s.e now).n) ∧ w'.cell? ⟨w1.heap.size, 2, none⟩ = some (.int .i64 (newSlot s.e now).f) ∧
      w'.cell? ⟨w2.heap.size, 0, none⟩ = some (.int .i64 (newSlot s.e now).e) ∧ w'.cell? ⟨w2.heap.size, 1, none⟩ = some (.int .i64 (newSlot s.e now).n) ∧ w'.cell? ⟨w2.heap.size, 2, none⟩ = some (.int .i64 (newSlot s.e now).f) ∧
      w2.heap.size < w'.heap.size ∧ Below w.heap.size w w')
    (first
      | exact ⟨e0, e1, e2, f0, f1, f2, g0, g1, g2, hz3, hbw.drew⟩
      | (go_split_ands
         refine ⟨(hb.cell (p := ⟨w.heap.size, 0, none⟩) (by show w.heap.size < _; omega)).trans (by assumption), (hb.cell (p := ⟨w.heap.size, 1, none⟩) (by show w.heap.size < _; omega)).trans (by assumption), (hb.cell (p := ⟨w.heap.size, 2, none⟩) (by show w.heap.size < _; omega)).trans (by assumption),
           (hb.cell (p := ⟨w1.heap.size, 0, none⟩) (by show w1.heap.size < _; omega)).trans (by assumption), (hb.cell (p := ⟨w1.heap.size, 1, none⟩) (by show w1.heap.size < _; omega)).trans (by assumption), (hb.cell (p := ⟨w1.heap.size, 2, none⟩) (by show w1.heap.size < _; omega)).trans (by assumption),
           (hb.cell (p := ⟨w2.heap.size, 0, none⟩) (by show w2.heap.size < _; omega)).trans (by assumption), (hb.cell (p := ⟨w2.heap.size, 1, none⟩) (by show w2.heap.size < _; omega)).trans (by assumption), (hb.cell (p := ⟨w2.heap.size, 2, none⟩) (by show w2.heap.size < _; omega)).trans (by assumption),
           Nat.lt_of_lt_of_le (by assumption) hb.size, Below.trans (by assumption) (hb.mono (by omega))⟩))
    (first
      | (go_at_call 17; refine (done_any s now _ _).mono ?_; rintro e w' ⟨rfl, hb⟩)
      | (go_at_call 18; refine (rdone_any s now _ _).mono ?_; rintro e w' ⟨rfl, hb⟩))
  go_wp2
  go_ret
  go_split_ands
  exact ⟨rfl, by assumption⟩

theorem own : ownKnob Try.prog.godebug = none := by kernel_rfl

set_option maxRecDepth 100000 in
theorem lifted (os : Os) (started : os.Started) (H : Type) (enc : TypeId × Value → H) :
    ReturnsInHanded {} Try.checked os 4 .any (Rows.slotsDoneSpec.pre6 enc Try.prog Try.f4 Rows.slotsDoneRow.domain false) (Rows.slotsDoneSpec.post enc Try.prog Try.f4 false true false false) := by
  refine law_lifted (C := Try.checked) (tb := 4) own started (by kernel_rfl) Try.func4
    (ChangeSpec.witness6 (enc := enc) (C := Try.checked) false ⟨#[], #[.agg #[.int .i64 0, .int .i64 0, .int .i64 0], .int .i64 0], []⟩ 8 (by kernel_rfl) (by kernel_rfl) (by kernel_rfl) (by kernel_rfl))
    rfl (by kernel_rfl) (by kernel_rfl) (by kernel_rfl) Try.underlying4 (fun ds h => ?_) ?_
  · rw [show Try.f4.params = #[29, 3] from Try.params4] at h
    match ds, h with
    | [_, _], _ => rfl
  · intro W base args ds before hval hA hlt hsz
    rw [show Try.f4.params = #[29, 3] from Try.params4] at hA hval hsz
    obtain ⟨v0, vs0, d0, ds0, p0, q0, hargs, rfl, rfl, h0, r0⟩ := trodAll_cons hA
    obtain ⟨v1, vs1, d1, ds1, p1, q1, rfl, rfl, rfl, h1, r1⟩ := trodAll_cons r0
    obtain ⟨rfl, rfl, rfl⟩ := trodAll_nil r1
    obtain rfl : args = #[v0, v1] := by cases args; simp_all
    obtain ⟨s, rfl, _⟩ := open_slot (hval 0 _ v0 rfl rfl) h0
    obtain ⟨now, rfl, _, _, _⟩ := open_int Try.underlying3 (hval 1 3 v1 rfl rfl) h1
    exact walk s now W

theorem proved : Rows.SlotsDoneSaid :=
  OpenClaim.holds_of_wide 4 Try.f4 rfl rfl rfl rfl rfl rfl rfl ⟨rfl, rfl, rfl, rfl, rfl⟩ rfl rfl rfl rfl rfl (by kernel_rfl) Try.func4 (by kernel_rfl)
    (of_decide_eq_true (by kernel_rfl)) (by unfold Func.isWrapper; rw [if_neg (of_decide_eq_false (by kernel_rfl))]; exact ⟨rfl, rfl⟩)
    (fun os started H enc _ => lifted os started H enc)
#print axioms proved
end SlotsDone
end Go.Proofs.Ytaccbkmlkmdmpaa
