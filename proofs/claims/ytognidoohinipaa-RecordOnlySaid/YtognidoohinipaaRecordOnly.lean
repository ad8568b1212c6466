/-
  What is proved here: the law RecordOnly returns true for all it is given. Conditions: none.
-/
import Derived.Test.YtognidoohinipaaRecKnown
namespace Go.Proofs.Ytognidoohinipaa
namespace RecordOnly
open Go.ChangeShapes Go.WideShapes Go.ChangeAt Go.RowKit Go.Deep Go.Joins
attribute [local go_sem high] eq_rec

theorem fin_err {M : List Int} {s : Bool} {r R : Rec} {E : Int} (h : finL M s r = (R, E)) (he : E ≠ 0) : R = zeroR := by
  unfold finL at h
  split at h
  · cases h; rfl
  split at h
  · cases h; rfl
  split at h
  · cases h; exact absurd rfl he
  · cases h; rfl
theorem get_err {L : List Int} {R : Rec} {E : Int} (h : getS L = (R, E)) (he : E ≠ 0) : R = zeroR := by
  unfold getS at h
  split at h
  · cases h; rfl
  dsimp only at h
  split at h
  · cases h; rfl
  split at h
  · split at h
    · cases h; rfl
    · exact fin_err h he
  split at h
  · exact fin_err h he
  split at h
  · exact fin_err h he
  · exact fin_err h he

set_option maxRecDepth 100000 in
set_option maxHeartbeats 1000000 in
theorem walk (A : Option Addr) (n cap : Nat) (L : List Int) (w : World) (hln : L.length = n) (hA : IntsAt .u8 w A L) (hL : ∀ x ∈ L, U8 x) (hcap : n ≤ cap) (hn : n ≤ 140737488351232) :
    Calls Try.prog 6 #[.slice A n cap] w fun e w' => e = .returned (.bool true) ∧ Below w.heap.size w w' := by
  have HA := Lib.hid hA
  have HL := Lib.hid hL
  have HN := Lib.hid hln
  obtain ⟨⟨⟨k, t, g, v, i⟩, x⟩, hx⟩ : ∃ p, p = getS L := ⟨_, rfl⟩
  have HX := Lib.hid hx.symm
  clear hA hL hln hx
  by_cases hx0 : x = 0
  · subst hx0
    obtain ⟨r1, r2, _, r4⟩ := rec_only HL.out HX.out
    have hg : g.size ≤ 9223372036854775807 := Nat.le_trans r4 (by decide)
    have HE := Lib.hid r1
    have HP := Lib.hid (show putR ⟨k, t, g, v, i⟩ = (L, 0) by unfold putR; rw [if_pos r1, r2])
    clear r1 r2 r4
    go_enter Try.func6, Try.ntmps6
    go_wp2_with fail
    refine (get_is A n cap L k t g v i 0 _ HX.out HN.out HA.out HL.out hn hcap).mono ?_
    rintro e w1 ⟨rfl, hb1⟩
    have B1 := Lib.hid hb1
    obtain ⟨w2, hw2⟩ : ∃ w2 : World, w2 = w1.alloc (.cells #[.int .i64 k, .int .i64 t, .string g, .int .i64 v, .int .i64 i] 23) := ⟨_, rfl⟩
    have hbx : Blk w2 w1.heap.size 23 #[.int .i64 k, .int .i64 t, .string g, .int .i64 v, .int .i64 i] := by rw [hw2]; exact Blk.new _ _ _
    have hb2 : Below w1.heap.size w1 w2 := by rw [hw2]; exact (Below.refl _ _).alloc (Nat.le_refl _) _
    have HBX := Lib.hid hbx
    have B2 := Lib.hid (B1.out.trans (hb2.mono B1.out.size))
    clear hb1 hb2
    go_upto_region 2 with fail
    rw [← hw2]
    clear hw2
    have s0 := hbx.cell 0
    have s1 := hbx.cell 1
    have s2 := hbx.cell 2
    have s3 := hbx.cell 3
    have s4 := hbx.cell 4
    have sl := hbx.lt
    simp only [List.getElem?_toArray, List.getElem?_cons_zero, List.getElem?_cons_succ] at s0 s1 s2 s3 s4
    clear hbx
    go_wp2_with fail
    refine (put_is k t g v i L 0 _ hg HP.out).mono ?_
    rintro e w3 ⟨A3, k3, rfl, ho3, hb3⟩
    have HR3 := Lib.hid (reads_own ho3)
    have hbx := HBX.out.below hb3 HBX.out.lt
    have B3 := Lib.hid (B2.out.trans (hb3.mono B2.out.size))
    clear ho3 hb3 s0 s1 s2 s3 s4 sl
    have s0 := hbx.cell 0
    have s1 := hbx.cell 1
    have s2 := hbx.cell 2
    have s3 := hbx.cell 3
    have s4 := hbx.cell 4
    have sl := hbx.lt
    simp only [List.getElem?_toArray, List.getElem?_cons_zero, List.getElem?_cons_succ] at s0 s1 s2 s3 s4
    clear hbx
    go_wp2_with fail
    refine (check_is k t g v i 0 _ hg HE.out).mono ?_
    rintro e w4 ⟨rfl, hb4⟩
    have HR4 := Lib.hid (HR3.out.below hb4)
    have B4 := Lib.hid (B3.out.trans (hb4.mono B3.out.size))
    clear hb4 s0 s1 s2 s3 s4 sl
    go_wp2_with fail
    refine (Bytes.same_yes (L := L) ⟨A, cap, by rw [HN.out], HA.out.below B4.out (Nat.le_refl _)⟩ HR4.out (by rw [HN.out]; omega)).mono ?_
    rintro e w5 ⟨rfl, hb5⟩
    have B5 := Lib.hid (B4.out.trans (hb5.mono B4.out.size))
    clear hb5
    go_wp2_with fail
    refine (known_any _).mono ?_
    rintro e w6 ⟨rfl, hb6⟩
    have B6 := Lib.hid (B5.out.trans (hb6.mono B5.out.size))
    clear hb6
    go_wp2_with fail
    go_ret
    exact ⟨rfl, B6.out⟩
  · have hz := get_err HX.out hx0
    have hxn : (x != 0) = true := by simp [hx0]
    injection hz with e1 e2 e3 e4 e5
    subst e1 e2 e3 e4 e5
    clear hx0
    go_enter Try.func6, Try.ntmps6
    go_wp2_with fail
    refine (get_is A n cap L 0 0 { data := #[] } 0 0 x _ HX.out HN.out HA.out HL.out hn hcap).mono ?_
    rintro e w1 ⟨rfl, hb1⟩
    have B1 := Lib.hid hb1
    obtain ⟨w2, hw2⟩ : ∃ w2 : World, w2 = w1.alloc (.cells #[.int .i64 0, .int .i64 0, .string { data := #[] }, .int .i64 0, .int .i64 0] 23) := ⟨_, rfl⟩
    have hbx : Blk w2 w1.heap.size 23 #[.int .i64 0, .int .i64 0, .string { data := #[] }, .int .i64 0, .int .i64 0] := by rw [hw2]; exact Blk.new _ _ _
    have hb2 : Below w1.heap.size w1 w2 := by rw [hw2]; exact (Below.refl _ _).alloc (Nat.le_refl _) _
    have B2 := Lib.hid (B1.out.trans (hb2.mono B1.out.size))
    clear hb1 hb2
    go_upto_region 2 with fail
    rw [← hw2]
    clear hw2
    have s0 := hbx.cell 0
    have s1 := hbx.cell 1
    have s2 := hbx.cell 2
    have s3 := hbx.cell 3
    have s4 := hbx.cell 4
    have sl := hbx.lt
    simp only [List.getElem?_toArray, List.getElem?_cons_zero, List.getElem?_cons_succ] at s0 s1 s2 s3 s4
    clear hbx
    go_wp2_with fail
    refine (known_any _).mono ?_
    rintro e w6 ⟨rfl, hb6⟩
    have B6 := Lib.hid (B2.out.trans (hb6.mono B2.out.size))
    clear hb6
    go_wp2_with fail
    go_ret
    exact ⟨rfl, B6.out⟩

theorem own : ownKnob Try.prog.godebug = none := by kernel_rfl

set_option maxRecDepth 100000 in
theorem lifted (os : Os) (started : os.Started) (H : Type) (enc : TypeId × Value → H) :
    ReturnsInHanded {} Try.checked os 6 .any (Rows.recordOnlySpec.pre6 enc Try.prog Try.f6 Rows.recordOnlyRow.domain false) (Rows.recordOnlySpec.post enc Try.prog Try.f6 false true false false) := by
  refine law_lifted (C := Try.checked) (tb := 4) own started (by kernel_rfl) Try.func6
    (ChangeSpec.witness6 (enc := enc) (C := Try.checked) false ⟨#[], #[.slice none 0 0], []⟩ 8 (by kernel_rfl) (by kernel_rfl) (by kernel_rfl) (by kernel_rfl))
    rfl (by kernel_rfl) (by kernel_rfl) (by kernel_rfl) Try.underlying4 (fun ds h => ?_) ?_
  · rw [show Try.f6.params = #[24] from Try.params6] at h
    match ds, h with
    | [_], _ => rfl
  · intro W base args ds before hval hA hlt hsz
    rw [show Try.f6.params = #[24] from Try.params6] at hA hval hsz
    obtain ⟨v0, vs0, d0, ds0, p0, q0, hargs, rfl, rfl, h0, r0⟩ := trodAll_cons hA
    obtain ⟨rfl, rfl, rfl⟩ := trodAll_nil r0
    obtain rfl : args = #[v0] := by cases args; simp_all
    obtain ⟨A, cap, L, rfl, hc, hc2, iA, iL, _⟩ := open_bytes (j := 0) (hval 0 _ v0 rfl rfl) h0 hsz rfl rfl
    exact walk A L.length cap L W rfl iA iL hc (by omega)

theorem proved : Rows.RecordOnlySaid :=
  OpenClaim.holds_of_wide 6 Try.f6 rfl rfl rfl rfl rfl rfl rfl ⟨rfl, rfl, rfl, rfl, rfl⟩ rfl rfl rfl rfl rfl (by kernel_rfl) Try.func6 (by kernel_rfl)
    (of_decide_eq_true (by kernel_rfl)) (by unfold Func.isWrapper; rw [if_neg (of_decide_eq_false (by kernel_rfl))]; exact ⟨rfl, rfl⟩)
    (fun os started H enc _ => lifted os started H enc)
#print axioms proved
end RecordOnly
end Go.Proofs.Ytognidoohinipaa
