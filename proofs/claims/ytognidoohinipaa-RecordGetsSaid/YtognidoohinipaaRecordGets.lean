/-
  What is proved here: the law RecordGets returns true for all it is given. Conditions: none.
-/
import Derived.Test.YtognidoohinipaaRecEq
namespace Go.Proofs.Ytognidoohinipaa
namespace RecordGets
open Go.ChangeShapes Go.WideShapes Go.ChangeAt Go.RowKit Go.Deep Go.Joins
attribute [local go_sem high] eq_rec

set_option maxRecDepth 100000 in
set_option maxHeartbeats 1000000 in
theorem walk (A : Option Addr) (n cap : Nat) (L : List Int) (w : World) (hln : L.length = n) (hA : IntsAt .u8 w A L) (hL : ∀ x ∈ L, U8 x) (hcap : n ≤ cap) (hn : n ≤ 140737488351232) :
    Calls Try.prog 4 #[.slice A n cap] w fun e w' => e = .returned (.bool true) ∧ Below w.heap.size w w' := by
  have HA := Lib.hid hA
  have HL := Lib.hid hL
  have HN := Lib.hid hln
  obtain ⟨⟨⟨k, t, g, v, i⟩, x⟩, hx⟩ : ∃ p, p = getS L := ⟨_, rfl⟩
  have HX := Lib.hid hx.symm
  clear hA hL hln hx
  go_enter Try.func4, Try.ntmps4
  go_wp2_with fail
  refine (lent_to A n cap L _ HN.out HA.out hn).mono ?_
  rintro e w1 ⟨gb, rfl, hwg, hrow, hb1⟩
  have HR1 := Lib.hid hrow
  have HI1 := Lib.hid (Bytes.lent_begin hrow)
  have B1 := Lib.hid hb1
  clear hrow hb1
  go_wp2_with fail
  refine (get_any _ n (n + 5) L _ x _ HN.out HI1.out HL.out hn (by omega) HX.out).mono ?_
  rintro e w2 ⟨rfl, hb2⟩
  have HR2 := Lib.hid (HR1.out.below hb2 HR1.out.lt)
  have B2 := Lib.hid (B1.out.trans (hb2.mono B1.out.size))
  clear hb2
  obtain ⟨w3, hw3⟩ : ∃ w3 : World, w3 = w2.alloc (.cells #[.int .i64 k, .int .i64 t, .string g, .int .i64 v, .int .i64 i] 23) := ⟨_, rfl⟩
  have hbx : Blk w3 w2.heap.size 23 #[.int .i64 k, .int .i64 t, .string g, .int .i64 v, .int .i64 i] := by rw [hw3]; exact Blk.new _ _ _
  have hb3 : Below w2.heap.size w2 w3 := by rw [hw3]; exact (Below.refl _ _).alloc (Nat.le_refl _) _
  have HBX := Lib.hid hbx
  have HR3 := Lib.hid (HR2.out.below hb3 HR2.out.lt)
  have B3 := Lib.hid (B2.out.trans (hb3.mono B2.out.size))
  have HC := Lib.hid (Rec.cells_k k t g v i)
  rw [HC.out]
  clear hbx hb3
  go_upto_region 3 with fail
  rw [← hw3]
  clear hw3
  go_wp2_with fail
  refine (rget_any A n cap L _ x _ HN.out (HA.out.below B3.out (Nat.le_refl _)) HL.out hn hcap HX.out).mono ?_
  rintro e w4 ⟨rfl, hb4⟩
  have HR4 := Lib.hid (HR3.out.below hb4 HR3.out.lt)
  have B4 := Lib.hid (B3.out.trans (hb4.mono B3.out.size))
  have HBX4 := Lib.hid (HBX.out.below hb4 HBX.out.lt)
  clear hb4
  obtain ⟨w5, hw5⟩ : ∃ w5 : World, w5 = w4.alloc (.cells #[.int .i64 k, .int .i64 t, .string g, .int .i64 v, .int .i64 i] 23) := ⟨_, rfl⟩
  have hbx : Blk w5 w4.heap.size 23 #[.int .i64 k, .int .i64 t, .string g, .int .i64 v, .int .i64 i] := by rw [hw5]; exact Blk.new _ _ _
  have hb5 : Below w4.heap.size w4 w5 := by rw [hw5]; exact (Below.refl _ _).alloc (Nat.le_refl _) _
  have hbx2 := HBX4.out.below hb5 HBX4.out.lt
  have HR5 := Lib.hid (HR4.out.below hb5 HR4.out.lt)
  have B5 := Lib.hid (B4.out.trans (hb5.mono B4.out.size))
  rw [HC.out]
  go_upto_region 4 with fail
  rw [← hw5]
  clear hw5 hb5
  have p0 := hbx.cell 0
  have s0 := hbx2.cell 0
  have p1 := hbx.cell 1
  have s1 := hbx2.cell 1
  have p2 := hbx.cell 2
  have s2 := hbx2.cell 2
  have p3 := hbx.cell 3
  have s3 := hbx2.cell 3
  have p4 := hbx.cell 4
  have s4 := hbx2.cell 4
  have pl := hbx.lt
  have sl := hbx2.lt
  simp only [List.getElem?_toArray, List.getElem?_cons_zero, List.getElem?_cons_succ] at p0 p1 p2 p3 p4 s0 s1 s2 s3 s4
  clear hbx hbx2
  go_wp2_with fail
  refine (kept_to gb n (n + 5) cap A L _ HN.out HR5.out (HA.out.below B5.out (Nat.le_refl _)) hn rfl).mono ?_
  rintro e w6 ⟨rfl, hb6⟩
  have B6 := Lib.hid (B5.out.trans (hb6.mono B5.out.size))
  clear hb6
  go_wp2_with fail
  go_ret
  exact ⟨rfl, B6.out⟩

theorem own : ownKnob Try.prog.godebug = none := by kernel_rfl

set_option maxRecDepth 100000 in
theorem lifted (os : Os) (started : os.Started) (H : Type) (enc : TypeId × Value → H) :
    ReturnsInHanded {} Try.checked os 4 .any (Rows.recordGetsSpec.pre6 enc Try.prog Try.f4 Rows.recordGetsRow.domain false) (Rows.recordGetsSpec.post enc Try.prog Try.f4 false true false false) := by
  refine law_lifted (C := Try.checked) (tb := 4) own started (by kernel_rfl) Try.func4
    (ChangeSpec.witness6 (enc := enc) (C := Try.checked) false ⟨#[], #[.slice none 0 0], []⟩ 8 (by kernel_rfl) (by kernel_rfl) (by kernel_rfl) (by kernel_rfl))
    rfl (by kernel_rfl) (by kernel_rfl) (by kernel_rfl) Try.underlying4 (fun ds h => ?_) ?_
  · rw [show Try.f4.params = #[24] from Try.params4] at h
    match ds, h with
    | [_], _ => rfl
  · intro W base args ds before hval hA hlt hsz
    rw [show Try.f4.params = #[24] from Try.params4] at hA hval hsz
    obtain ⟨v0, vs0, d0, ds0, p0, q0, hargs, rfl, rfl, h0, r0⟩ := trodAll_cons hA
    obtain ⟨rfl, rfl, rfl⟩ := trodAll_nil r0
    obtain rfl : args = #[v0] := by cases args; simp_all
    obtain ⟨A, cap, L, rfl, hc, hc2, iA, iL, _⟩ := open_bytes (j := 0) (hval 0 _ v0 rfl rfl) h0 hsz rfl rfl
    exact walk A L.length cap L W rfl iA iL hc (by omega)

theorem proved : Rows.RecordGetsSaid :=
  OpenClaim.holds_of_wide 4 Try.f4 rfl rfl rfl rfl rfl rfl rfl ⟨rfl, rfl, rfl, rfl, rfl⟩ rfl rfl rfl rfl rfl (by kernel_rfl) Try.func4 (by kernel_rfl)
    (of_decide_eq_true (by kernel_rfl)) (by unfold Func.isWrapper; rw [if_neg (of_decide_eq_false (by kernel_rfl))]; exact ⟨rfl, rfl⟩)
    (fun os started H enc _ => lifted os started H enc)
#print axioms proved
end RecordGets
end Go.Proofs.Ytognidoohinipaa
