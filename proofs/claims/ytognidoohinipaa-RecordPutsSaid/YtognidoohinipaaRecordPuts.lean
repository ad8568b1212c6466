/-
  What is proved here: the law RecordPuts returns true for all it is given. Conditions: none.
-/
import Derived.Test.YtognidoohinipaaRecOpen
namespace Go.Proofs.Ytognidoohinipaa
namespace RecordPuts
open Go.ChangeShapes Go.WideShapes Go.ChangeAt Go.RowKit Go.Deep Go.Joins

set_option maxRecDepth 100000 in
set_option maxHeartbeats 2000000 in
theorem walk (r : Rec) (w : World) (hg : r.g.size ≤ 9223372036854775807) :
    Calls Try.prog 3 #[.agg r.cells] w fun e w' => e = .returned (.bool true) ∧ Below w.heap.size w w' := by
  obtain ⟨⟨Q, n⟩, hq⟩ : ∃ p, p = putR r := ⟨_, rfl⟩
  have hql := putR_len hq.symm
  have HP := Lib.hid (fun (W : World) => put_any r W Q n hg hq.symm)
  have HR := Lib.hid (fun (W : World) => rput_any r W Q n hg hq.symm)
  have HC := Lib.hid (fun (W : World) => check_any r W hg)
  have HD := Lib.hid (fun (W : World) => rcheck_any r W hg)
  obtain ⟨m, hm⟩ : ∃ m, m = recErr r := ⟨_, rfl⟩
  rw [← hm] at HC HD
  obtain ⟨k, t, g, v, i⟩ := r
  clear hq hm
  have HP := Lib.hid (show ∀ W : World, Calls Try.prog 9 #[.agg #[.int .i64 k, .int .i64 t, .string g, .int .i64 v, .int .i64 i]] W (PutBack Q n W) from HP.out)
  have HR := Lib.hid (show ∀ W : World, Calls Try.prog 10 #[.agg #[.int .i64 k, .int .i64 t, .string g, .int .i64 v, .int .i64 i]] W (PutBack Q n W) from HR.out)
  have HC := Lib.hid (show ∀ W : World, Calls Try.prog 11 #[.agg #[.int .i64 k, .int .i64 t, .string g, .int .i64 v, .int .i64 i]] W (fun e w' => e = .returned (.int .i64 m) ∧ Below W.heap.size W w') from HC.out)
  have HD := Lib.hid (show ∀ W : World, Calls Try.prog 12 #[.agg #[.int .i64 k, .int .i64 t, .string g, .int .i64 v, .int .i64 i]] W (fun e w' => e = .returned (.int .i64 m) ∧ Below W.heap.size W w') from HD.out)
  show Calls Try.prog 3 #[.agg #[.int .i64 k, .int .i64 t, .string g, .int .i64 v, .int .i64 i]] w _
  obtain ⟨cs, hcs⟩ : ∃ cs : Array Value, cs = #[.int .i64 k, .int .i64 t, .string g, .int .i64 v, .int .i64 i] := ⟨_, rfl⟩
  have HCS := Lib.hid hcs
  clear hcs
  go_enter Try.func3, Try.ntmps3
  go_wp2_with fail
  refine (HP.out _).mono ?_
  rintro e w1 ⟨A1, c1, rfl, ho1, hb1⟩
  have hbox : Blk w1 w.heap.size 23 cs := by rw [HCS.out]; exact (Blk.new w 23 _).below hb1 (by simp)
  have HBX := Lib.hid hbox
  have HR1 := Lib.hid (reads_own ho1)
  have B1 := Lib.hid (((Below.refl w.heap.size w).alloc (Nat.le_refl _) (.cells #[.int .i64 k, .int .i64 t, .string g, .int .i64 v, .int .i64 i] 23)).trans (hb1.mono (by simp)))
  clear ho1 hb1 hbox
  have b0 : w1.cell? ⟨w.heap.size, 0, none⟩ = some (.int .i64 k) := (HBX.out.cell 0).trans (by rw [HCS.out]; rfl)
  have b1 : w1.cell? ⟨w.heap.size, 1, none⟩ = some (.int .i64 t) := (HBX.out.cell 1).trans (by rw [HCS.out]; rfl)
  have b2 : w1.cell? ⟨w.heap.size, 2, none⟩ = some (.string g) := (HBX.out.cell 2).trans (by rw [HCS.out]; rfl)
  have b3 : w1.cell? ⟨w.heap.size, 3, none⟩ = some (.int .i64 v) := (HBX.out.cell 3).trans (by rw [HCS.out]; rfl)
  have b4 : w1.cell? ⟨w.heap.size, 4, none⟩ = some (.int .i64 i) := (HBX.out.cell 4).trans (by rw [HCS.out]; rfl)
  have hlt : w.heap.size < w1.heap.size := HBX.out.lt
  go_wp2_with fail
  refine (HR.out _).mono ?_
  rintro e w2 ⟨A2, c2, rfl, ho2, hb2⟩
  have HBX2 := Lib.hid (HBX.out.below hb2 HBX.out.lt)
  have HR12 := Lib.hid (HR1.out.below hb2)
  have HR2 := Lib.hid (reads_own ho2)
  have B2 := Lib.hid (B1.out.trans (hb2.mono B1.out.size))
  clear ho2 hb2 b0 b1 b2 b3 b4 hlt
  have b0 : w2.cell? ⟨w.heap.size, 0, none⟩ = some (.int .i64 k) := (HBX2.out.cell 0).trans (by rw [HCS.out]; rfl)
  have b1 : w2.cell? ⟨w.heap.size, 1, none⟩ = some (.int .i64 t) := (HBX2.out.cell 1).trans (by rw [HCS.out]; rfl)
  have b2 : w2.cell? ⟨w.heap.size, 2, none⟩ = some (.string g) := (HBX2.out.cell 2).trans (by rw [HCS.out]; rfl)
  have b3 : w2.cell? ⟨w.heap.size, 3, none⟩ = some (.int .i64 v) := (HBX2.out.cell 3).trans (by rw [HCS.out]; rfl)
  have b4 : w2.cell? ⟨w.heap.size, 4, none⟩ = some (.int .i64 i) := (HBX2.out.cell 4).trans (by rw [HCS.out]; rfl)
  have hlt : w.heap.size < w2.heap.size := HBX2.out.lt
  have HLT := Lib.hid hlt
  go_upto_region 3 with fail
  go_region_held3 (fun w' => w'.cell? ⟨w.heap.size, 0, none⟩ = some (.int .i64 k) ∧ w'.cell? ⟨w.heap.size, 1, none⟩ = some (.int .i64 t) ∧ w'.cell? ⟨w.heap.size, 2, none⟩ = some (.string g) ∧ w'.cell? ⟨w.heap.size, 3, none⟩ = some (.int .i64 v) ∧ w'.cell? ⟨w.heap.size, 4, none⟩ = some (.int .i64 i) ∧ Below w2.heap.size w2 w')
    (first
      | exact ⟨b0, b1, b2, b3, b4, (Below.refl _ _).drew⟩
      | exact ⟨((HBX2.out.below hk hlt).cell 0).trans (show cs[0]? = _ by rw [HCS.out]; rfl), ((HBX2.out.below hk hlt).cell 1).trans (show cs[1]? = _ by rw [HCS.out]; rfl), ((HBX2.out.below hk hlt).cell 2).trans (show cs[2]? = _ by rw [HCS.out]; rfl), ((HBX2.out.below hk hlt).cell 3).trans (show cs[3]? = _ by rw [HCS.out]; rfl), ((HBX2.out.below hk hlt).cell 4).trans (show cs[4]? = _ by rw [HCS.out]; rfl), hk⟩)
    (first
      | (go_at_call 11; (with_reducible refine (HC.out _).mono ?_); rintro e w' ⟨rfl, hb⟩; have hk : Below w2.heap.size w2 w' := (by first | exact hk.trans (hb.mono hk.size) | exact (Below.refl _ _).drew.trans hb))
      | (go_at_call 12; (with_reducible refine (HD.out _).mono ?_); rintro e w' ⟨rfl, hb⟩; have hk : Below w2.heap.size w2 w' := (by first | exact hk.trans (hb.mono hk.size) | exact (Below.refl _ _).drew.trans hb))
      | (go_at_call 13; (with_reducible refine (Bytes.same_yes (L := Q) (HR12.out.below hk) (HR2.out.below hk) (Nat.le_trans hql (by decide))).mono ?_); rintro e w' ⟨rfl, hb⟩; have hk : Below w2.heap.size w2 w' := (by first | exact hk.trans (hb.mono hk.size) | exact (Below.refl _ _).drew.trans hb)))
  all_goals
    go_wp2_with fail
    go_ret
    exact ⟨rfl, B2.out.trans (hk.mono B2.out.size)⟩

theorem own : ownKnob Try.prog.godebug = none := by kernel_rfl

set_option maxRecDepth 100000 in
theorem lifted (os : Os) (started : os.Started) (H : Type) (enc : TypeId × Value → H) :
    ReturnsInHanded {} Try.checked os 3 .any (Rows.recordPutsSpec.pre6 enc Try.prog Try.f3 Rows.recordPutsRow.domain false) (Rows.recordPutsSpec.post enc Try.prog Try.f3 false true false false) := by
  refine law_lifted (C := Try.checked) (tb := 4) own started (by kernel_rfl) Try.func3
    (ChangeSpec.witness6 (enc := enc) (C := Try.checked) false ⟨#[], #[.agg #[.int .i64 0, .int .i64 0, .string ⟨#[]⟩, .int .i64 0, .int .i64 0]], []⟩ 8 (by kernel_rfl) (by kernel_rfl) (by kernel_rfl) (by kernel_rfl))
    rfl (by kernel_rfl) (by kernel_rfl) (by kernel_rfl) Try.underlying4 (fun ds h => ?_) ?_
  · rw [show Try.f3.params = #[23] from Try.params3] at h
    match ds, h with
    | [_], _ => rfl
  · intro W base args ds before hval hA hlt hsz
    rw [show Try.f3.params = #[23] from Try.params3] at hA hval hsz
    obtain ⟨v0, vs0, d0, ds0, p0, q0, hargs, rfl, rfl, h0, r0⟩ := trodAll_cons hA
    obtain ⟨rfl, rfl, rfl⟩ := trodAll_nil r0
    obtain rfl : args = #[v0] := by cases args; simp_all
    obtain ⟨r, rfl, _, _, _, _, hg⟩ := open_rec (hval 0 _ v0 rfl rfl) h0
    exact walk r W hg

theorem proved : Rows.RecordPutsSaid :=
  OpenClaim.holds_of_wide 3 Try.f3 rfl rfl rfl rfl rfl rfl rfl ⟨rfl, rfl, rfl, rfl, rfl⟩ rfl rfl rfl rfl rfl (by kernel_rfl) Try.func3 (by kernel_rfl)
    (of_decide_eq_true (by kernel_rfl)) (by unfold Func.isWrapper; rw [if_neg (of_decide_eq_false (by kernel_rfl))]; exact ⟨rfl, rfl⟩)
    (fun os started H enc _ => lifted os started H enc)
#print axioms proved
end RecordPuts
end Go.Proofs.Ytognidoohinipaa
