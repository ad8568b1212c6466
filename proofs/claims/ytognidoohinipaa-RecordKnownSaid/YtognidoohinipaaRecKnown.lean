/-
  What is proved here: one record, there and back (known, chapter 11). Conditions: none.
-/
import Derived.Test.YtognidoohinipaaRecBackLaws
namespace Go.Proofs.Ytognidoohinipaa
open Go.ChangeShapes Go.WideShapes Go.ChangeAt Go.RowKit Go.Deep Go.Joins
attribute [local go_sem high] eq_rec

theorem put_is (k t : Int) (g : ByteArray) (v i : Int) (Q : List Int) (n : Int) (w : World) (hg : g.size ≤ 9223372036854775807) (h : putR ⟨k, t, g, v, i⟩ = (Q, n)) :
    Calls Try.prog 9 #[.agg #[.int .i64 k, .int .i64 t, .string g, .int .i64 v, .int .i64 i]] w (PutBack Q n w) := put_any ⟨k, t, g, v, i⟩ w Q n hg h
theorem get_is (A : Option Addr) (n cap : Nat) (L : List Int) (k t : Int) (g : ByteArray) (v i E : Int) (w : World) (hR : getS L = (⟨k, t, g, v, i⟩, E)) (hln : L.length = n) (hA : IntsAt .u8 w A L) (hL : ∀ x ∈ L, U8 x) (hn2 : n ≤ 140737488351232) (hcap : n ≤ cap) :
    Calls Try.prog 15 #[.slice A n cap] w fun e w' => e = .returned (.tuple #[.agg #[.int .i64 k, .int .i64 t, .string g, .int .i64 v, .int .i64 i], .int .i64 E]) ∧ Below w.heap.size w w' :=
  get_any A n cap L _ E w hln hA hL hn2 hcap hR
theorem small_u8 {L : List Int} (h : L.all (fun x => decide (0 ≤ x) && decide (x ≤ 255)) = true) : ∀ x ∈ L, U8 x := by
  intro x hx
  have := List.all_eq_true.1 h x hx
  simp at this
  exact this
def want : List Int := [4, 0, 0, 0, 0, 0, 0, 0, 0, 0, 0, 0, 0, 0, 0, 0, 3]
theorem want_err : recErr ⟨4, 0, noG, 3, 0⟩ = 0 := by
  refine err_ok (by unfold Within; decide) (by unfold FieldBad tagK namK; dsimp only; decide) (by unfold Within; decide) (by unfold tagK; dsimp only; omega) ?_
  unfold RangeBad namK Within loK hiK
  dsimp only
  omega
theorem want_rec : recL ⟨4, 0, noG, 3, 0⟩ = want := by decide
theorem want_put : putR ⟨4, 0, noG, 3, 0⟩ = (want, 0) := by unfold putR; rw [if_pos want_err, want_rec]
theorem want_get : getS want = (⟨4, 0, noG, 3, 0⟩, 0) := by
  have := (rec_app want_err ⟨by unfold I64; decide, by unfold I64; decide, by unfold I64; decide⟩ []).2 rfl
  rw [want_rec, List.append_nil] at this
  exact this

set_option maxRecDepth 100000 in
set_option maxHeartbeats 1000000 in
theorem known_any (w : World) : Calls Try.prog 18 #[] w fun e w' => e = .returned (.bool true) ∧ Below w.heap.size w w' := by
  go_enter Try.func18, Try.ntmps18
  go_wp2_with fail
  obtain ⟨w0, hw0⟩ : ∃ w0 : World, w0 = w.alloc (.cells #[.int .i64 4, .int .i64 0, .string noG, .int .i64 3, .int .i64 0] 23) := ⟨_, rfl⟩
  have hbx : Blk w0 w.heap.size 23 #[.int .i64 4, .int .i64 0, .string noG, .int .i64 3, .int .i64 0] := by rw [hw0]; exact Blk.new _ _ _
  have hb0 : Below w.heap.size w w0 := by rw [hw0]; exact (Below.refl _ _).alloc (Nat.le_refl _) _
  have HBX := Lib.hid hbx
  have B0 := Lib.hid hb0
  rw [show w.alloc (.cells #[.int .i64 4, .int .i64 0, .string { data := #[] }, .int .i64 3, .int .i64 0] 23) = w0 from hw0.symm]
  clear hw0 hbx hb0
  refine (put_is 4 0 noG 3 0 want 0 _ (by decide) want_put).mono ?_
  rintro e w1 ⟨A1, k1, rfl, ho1, hb1⟩
  have HR1 := Lib.hid (reads_own ho1)
  have HBX1 := Lib.hid (HBX.out.below hb1 HBX.out.lt)
  have B1 := Lib.hid (B0.out.trans (hb1.mono B0.out.size))
  clear ho1 hb1 HBX
  go_wp2_with fail
  obtain ⟨w2, hw2⟩ : ∃ w2 : World, w2 = w1.alloc (.cells #[.int .u8 4, .int .u8 0, .int .u8 0, .int .u8 0, .int .u8 0, .int .u8 0, .int .u8 0, .int .u8 0, .int .u8 0, .int .u8 0, .int .u8 0, .int .u8 0, .int .u8 0, .int .u8 0, .int .u8 0, .int .u8 0, .int .u8 3] 5) := ⟨_, rfl⟩
  have ho2 := own_new (E := 5) w1 want 0 (Nat.zero_le _) (by decide) #[.int .u8 4, .int .u8 0, .int .u8 0, .int .u8 0, .int .u8 0, .int .u8 0, .int .u8 0, .int .u8 0, .int .u8 0, .int .u8 0, .int .u8 0, .int .u8 0, .int .u8 0, .int .u8 0, .int .u8 0, .int .u8 0, .int .u8 3] rfl
  have hb2 : Below w1.heap.size w1 w2 := by rw [hw2]; exact (Below.refl _ _).alloc (Nat.le_refl _) _
  rw [← hw2] at ho2 ⊢
  have HI2 := Lib.hid (own_ints ho2)
  have HR2 := Lib.hid (HR1.out.below hb2)
  have HBX2 := Lib.hid (HBX1.out.below hb2 HBX1.out.lt)
  have B2 := Lib.hid (B1.out.trans (hb2.mono B1.out.size))
  clear hw2 ho2 hb2 HR1 HBX1
  refine (get_is _ 17 17 want 4 0 noG 3 0 0 _ want_get rfl HI2.out (small_u8 rfl) (by decide) (by decide)).mono ?_
  rintro e w3 ⟨rfl, hb3⟩
  have HI3 := Lib.hid (HI2.out.below hb3 (Nat.le_refl _))
  have HR3 := Lib.hid (HR2.out.below hb3)
  have HBX3 := Lib.hid (HBX2.out.below hb3 HBX2.out.lt)
  have B3 := Lib.hid (B2.out.trans (hb3.mono B2.out.size))
  clear hb3
  obtain ⟨w4, hw4⟩ : ∃ w4 : World, w4 = w3.alloc (.cells #[.int .i64 4, .int .i64 0, .string noG, .int .i64 3, .int .i64 0] 23) := ⟨_, rfl⟩
  have hbx : Blk w4 w3.heap.size 23 #[.int .i64 4, .int .i64 0, .string noG, .int .i64 3, .int .i64 0] := by rw [hw4]; exact Blk.new _ _ _
  have hb4 : Below w3.heap.size w3 w4 := by rw [hw4]; exact (Below.refl _ _).alloc (Nat.le_refl _) _
  have HY := Lib.hid hbx
  have HI4 := Lib.hid (HI3.out.below hb4 (Nat.le_refl _))
  have HR4 := Lib.hid (HR3.out.below hb4)
  have HBX4 := Lib.hid (HBX3.out.below hb4 HBX3.out.lt)
  have B4 := Lib.hid (B3.out.trans (hb4.mono B3.out.size))
  clear hbx hb4
  go_upto_region 5 with fail
  rw [show w3.alloc (.cells #[.int .i64 4, .int .i64 0, .string noG, .int .i64 3, .int .i64 0] 23) = w4 from hw4.symm]
  clear hw4
  go_wp2_with fail
  refine (Bytes.same_yes (L := want) HR4.out ⟨_, _, rfl, HI4.out⟩ (by decide)).mono ?_
  rintro e w5 ⟨rfl, hb5⟩
  have HY5 := HY.out.below hb5 HY.out.lt
  have HBX5 := HBX4.out.below hb5 HBX4.out.lt
  have B5 := Lib.hid (B4.out.trans (hb5.mono B4.out.size))
  have p0 := HY5.cell 0
  have p1 := HY5.cell 1
  have p2 := HY5.cell 2
  have p3 := HY5.cell 3
  have p4 := HY5.cell 4
  have s0 := HBX5.cell 0
  have s1 := HBX5.cell 1
  have s2 := HBX5.cell 2
  have s3 := HBX5.cell 3
  have s4 := HBX5.cell 4
  have pl := HY5.lt
  have sl := HBX5.lt
  simp only [List.getElem?_toArray, List.getElem?_cons_zero, List.getElem?_cons_succ] at p0 p1 p2 p3 p4 s0 s1 s2 s3 s4
  clear HY5 HBX5 hb5
  go_wp2_with fail
  go_ret
  exact ⟨rfl, B5.out⟩
end Go.Proofs.Ytognidoohinipaa
