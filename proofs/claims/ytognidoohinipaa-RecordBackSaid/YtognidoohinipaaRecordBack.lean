/-
  What is proved here: the law RecordBack returns true for all it is given. Conditions: none.
-/
import Derived.Test.YtognidoohinipaaRecKnown
namespace Go.Proofs.Ytognidoohinipaa
namespace RecordBack
open Go.ChangeShapes Go.WideShapes Go.ChangeAt Go.RowKit Go.Deep Go.Joins
attribute [local go_sem high] eq_rec

set_option maxRecDepth 100000 in
set_option maxHeartbeats 1000000 in
theorem walk (k t : Int) (g : ByteArray) (v i : Int) (w : World) (hg : g.size ≤ 9223372036854775807) (hi : Ranged ⟨k, t, g, v, i⟩) :
    Calls Try.prog 5 #[.agg #[.int .i64 k, .int .i64 t, .string g, .int .i64 v, .int .i64 i]] w fun e w' => e = .returned (.bool true) ∧ Below w.heap.size w w' := by
  obtain ⟨x, hx⟩ : ∃ x, x = recErr ⟨k, t, g, v, i⟩ := ⟨_, rfl⟩
  have HX := Lib.hid hx.symm
  have HI := Lib.hid hi
  obtain ⟨w0, hw0⟩ : ∃ w0 : World, w0 = w.alloc (.cells #[.int .i64 k, .int .i64 t, .string g, .int .i64 v, .int .i64 i] 23) := ⟨_, rfl⟩
  have hbx : Blk w0 w.heap.size 23 #[.int .i64 k, .int .i64 t, .string g, .int .i64 v, .int .i64 i] := by rw [hw0]; exact Blk.new _ _ _
  have hb0 : Below w.heap.size w w0 := by rw [hw0]; exact (Below.refl _ _).alloc (Nat.le_refl _) _
  have HBX := Lib.hid hbx
  have B0 := Lib.hid hb0
  clear hx hi hbx hb0
  by_cases hx0 : x = 0
  · subst hx0
    obtain ⟨l1, l2⟩ := rec_len HX.out
    have HU := Lib.hid (rec_u8 HX.out)
    have HG := Lib.hid ((rec_app HX.out HI.out []).2 rfl)
    rw [List.append_nil] at HG
    have HP := Lib.hid (show putR ⟨k, t, g, v, i⟩ = (recL ⟨k, t, g, v, i⟩, 0) by unfold putR; rw [if_pos HX.out])
    obtain ⟨Q, hQ⟩ : ∃ Q, Q = recL ⟨k, t, g, v, i⟩ := ⟨_, rfl⟩
    rw [← hQ] at l1 l2 HU HG HP
    clear hQ
    go_enter Try.func5, Try.ntmps5
    go_wp2_with fail
    rw [← hw0]
    clear hw0
    refine (check_is k t g v i 0 _ hg HX.out).mono ?_
    rintro e w1 ⟨rfl, hb1⟩
    have h1 := HBX.out.below hb1 HBX.out.lt
    have HBX1 := Lib.hid h1
    have B1 := Lib.hid (B0.out.trans (hb1.mono B0.out.size))
    have s0 := h1.cell 0
    have s1 := h1.cell 1
    have s2 := h1.cell 2
    have s3 := h1.cell 3
    have s4 := h1.cell 4
    have sl := h1.lt
    simp only [List.getElem?_toArray, List.getElem?_cons_zero, List.getElem?_cons_succ] at s0 s1 s2 s3 s4
    clear hb1 h1
    go_wp2_with fail
    refine (put_is k t g v i Q 0 _ hg HP.out).mono ?_
    rintro e w2 ⟨A2, k2, rfl, ho2, hb2⟩
    have HI2 := Lib.hid (own_ints ho2)
    have HC2 := Lib.hid (own_cap ho2)
    have h2 := HBX1.out.below hb2 HBX1.out.lt
    have HBX2 := Lib.hid h2
    have B2 := Lib.hid (B1.out.trans (hb2.mono B1.out.size))
    obtain ⟨m, hm⟩ : ∃ m, m = Q.length := ⟨_, rfl⟩
    have HM := Lib.hid hm.symm
    rw [← hm] at l1 l2 HC2 ⊢
    clear ho2 hb2 h2 s0 s1 s2 s3 s4 sl hm
    go_wp2_with fail
    refine (get_is A2 m k2 Q k t g v i 0 _ HG.out HM.out HI2.out HU.out (by omega) HC2.out.1).mono ?_
    rintro e w3 ⟨rfl, hb3⟩
    have HBX3 := Lib.hid (HBX2.out.below hb3 HBX2.out.lt)
    have B3 := Lib.hid (B2.out.trans (hb3.mono B2.out.size))
    obtain ⟨w4, hw4⟩ : ∃ w4 : World, w4 = w3.alloc (.cells #[.int .i64 k, .int .i64 t, .string g, .int .i64 v, .int .i64 i] 23) := ⟨_, rfl⟩
    have hbx : Blk w4 w3.heap.size 23 #[.int .i64 k, .int .i64 t, .string g, .int .i64 v, .int .i64 i] := by rw [hw4]; exact Blk.new _ _ _
    have hb4 : Below w3.heap.size w3 w4 := by rw [hw4]; exact (Below.refl _ _).alloc (Nat.le_refl _) _
    have h4 := HBX3.out.below hb4 HBX3.out.lt
    have B4 := Lib.hid (B3.out.trans (hb4.mono B3.out.size))
    clear hb3 hb4
    go_upto_region 8 with fail
    rw [← hw4]
    clear hw4
    have p0 := hbx.cell 0
    have p1 := hbx.cell 1
    have p2 := hbx.cell 2
    have p3 := hbx.cell 3
    have p4 := hbx.cell 4
    have s0 := h4.cell 0
    have s1 := h4.cell 1
    have s2 := h4.cell 2
    have s3 := h4.cell 3
    have s4 := h4.cell 4
    have pl := hbx.lt
    have sl := h4.lt
    simp only [List.getElem?_toArray, List.getElem?_cons_zero, List.getElem?_cons_succ] at p0 p1 p2 p3 p4 s0 s1 s2 s3 s4
    have m1 : (17 : Int) ≤ (m : Int) := by omega
    have m2 : (m : Int) ≤ 34 := by omega
    clear hbx h4
    go_wp2_with fail
    refine (known_any _).mono ?_
    rintro e w5 ⟨rfl, hb5⟩
    have B5 := Lib.hid (B4.out.trans (hb5.mono B4.out.size))
    clear hb5
    go_wp2_with fail
    go_ret
    exact ⟨rfl, B5.out⟩
  · have hxn : (x != 0) = true := by simp [hx0]
    have HP := Lib.hid (show putR ⟨k, t, g, v, i⟩ = ([], x) by unfold putR; rw [if_neg (by rw [HX.out]; exact hx0), HX.out])
    clear hx0
    go_enter Try.func5, Try.ntmps5
    go_wp2_with fail
    rw [← hw0]
    clear hw0
    refine (check_is k t g v i x _ hg HX.out).mono ?_
    rintro e w1 ⟨rfl, hb1⟩
    have h1 := HBX.out.below hb1 HBX.out.lt
    have B1 := Lib.hid (B0.out.trans (hb1.mono B0.out.size))
    have s0 := h1.cell 0
    have s1 := h1.cell 1
    have s2 := h1.cell 2
    have s3 := h1.cell 3
    have s4 := h1.cell 4
    have sl := h1.lt
    simp only [List.getElem?_toArray, List.getElem?_cons_zero, List.getElem?_cons_succ] at s0 s1 s2 s3 s4
    clear hb1 h1
    go_wp2_with fail
    refine (put_is k t g v i [] x _ hg HP.out).mono ?_
    rintro e w2 ⟨A2, k2, rfl, _, hb2⟩
    have B2 := Lib.hid (B1.out.trans (hb2.mono B1.out.size))
    clear hb2 s0 s1 s2 s3 s4 sl
    go_wp2_with fail
    refine (known_any _).mono ?_
    rintro e w5 ⟨rfl, hb5⟩
    have B5 := Lib.hid (B2.out.trans (hb5.mono B2.out.size))
    clear hb5
    go_wp2_with fail
    go_ret
    exact ⟨rfl, B5.out⟩

theorem own : ownKnob Try.prog.godebug = none := by kernel_rfl

set_option maxRecDepth 100000 in
theorem lifted (os : Os) (started : os.Started) (H : Type) (enc : TypeId × Value → H) :
    ReturnsInHanded {} Try.checked os 5 .any (Rows.recordBackSpec.pre6 enc Try.prog Try.f5 Rows.recordBackRow.domain false) (Rows.recordBackSpec.post enc Try.prog Try.f5 false true false false) := by
  refine law_lifted (C := Try.checked) (tb := 4) own started (by kernel_rfl) Try.func5
    (ChangeSpec.witness6 (enc := enc) (C := Try.checked) false ⟨#[], #[.agg #[.int .i64 0, .int .i64 0, .string ⟨#[]⟩, .int .i64 0, .int .i64 0]], []⟩ 8 (by kernel_rfl) (by kernel_rfl) (by kernel_rfl) (by kernel_rfl))
    rfl (by kernel_rfl) (by kernel_rfl) (by kernel_rfl) Try.underlying4 (fun ds h => ?_) ?_
  · rw [show Try.f5.params = #[23] from Try.params5] at h
    match ds, h with
    | [_], _ => rfl
  · intro W base args ds before hval hA hlt hsz
    rw [show Try.f5.params = #[23] from Try.params5] at hA hval hsz
    obtain ⟨v0, vs0, d0, ds0, p0, q0, hargs, rfl, rfl, h0, r0⟩ := trodAll_cons hA
    obtain ⟨rfl, rfl, rfl⟩ := trodAll_nil r0
    obtain rfl : args = #[v0] := by cases args; simp_all
    obtain ⟨⟨k, t, g, v, i⟩, rfl, _, h1, h2, h3, hg⟩ := open_rec (hval 0 _ v0 rfl rfl) h0
    exact walk k t g v i W hg ⟨h1, h2, h3⟩

theorem proved : Rows.RecordBackSaid :=
  OpenClaim.holds_of_wide 5 Try.f5 rfl rfl rfl rfl rfl rfl rfl ⟨rfl, rfl, rfl, rfl, rfl⟩ rfl rfl rfl rfl rfl (by kernel_rfl) Try.func5 (by kernel_rfl)
    (of_decide_eq_true (by kernel_rfl)) (by unfold Func.isWrapper; rw [if_neg (of_decide_eq_false (by kernel_rfl))]; exact ⟨rfl, rfl⟩)
    (fun os started H enc _ => lifted os started H enc)
#print axioms proved
end RecordBack
end Go.Proofs.Ytognidoohinipaa
