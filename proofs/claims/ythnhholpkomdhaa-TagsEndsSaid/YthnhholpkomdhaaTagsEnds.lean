/-
  What is proved here: the law TagsEnds returns true. Conditions: none beyond the form's.
-/
import Derived.Test.YthnhholpkomdhaaTagOpen
import Derived.Test.YthnhholpkomdhaaTagKnown
import Derived.Test.YthnhholpkomdhaaTagEnd
import Derived.Laws.Concat
namespace Go.Proofs.Ythnhholpkomdhaa
namespace TagsEnds
open Go.ChangeShapes Go.WideShapes Go.ChangeAt Go.RowKit Go.Deep
attribute [local go_sem ↓ high] loadTag_eq storeTag_eq
attribute [local go_sem] run_storeTag_new run_loadTag_new

theorem blk_load {w : World} {g : Nat} {t : Tag} (h : Blk w g 29 t.cells) : (loadTag ⟨g, 0, none⟩).run Try.prog w = .ok (.agg t.cells) w :=
  run_loadVar_row _ _ _ _ _ _ _ h tagU rfl tagI
set_option maxRecDepth 100000 in
set_option maxHeartbeats 2000000 in
theorem walk (t : Tag) (w : World) (hf : t.Fit) :
    Calls Try.prog 5 #[.agg t.cells] w fun e w' => e = .returned (.bool true) ∧ Below w.heap.size w w' := by
  have HG := Lib.hid hf.g
  clear hf
  have HB := Lib.hid (show TB w t (w.alloc (.cells t.cells 29)) from ⟨Blk.new _ _ _, by (repeat (first | (with_reducible assumption) | (with_reducible exact Below.refl _ _) | ((with_reducible refine Below.setCell ?_ ?_ _); rotate_left; · (first | omega | (simp; done) | (simp; omega) | (simp at *; omega))) | ((with_reducible refine Below.alloc ?_ ?_ _); rotate_left; · (first | omega | (simp; done) | (simp; omega) | (simp at *; omega))) | (with_reducible refine Below.drew ?_) | (with_reducible refine below_drewN ?_ _) | ((refine Below.trans ?_ (Below.mono (by with_reducible assumption) ?_)); rotate_left; · (first | omega | (simp; done) | (simp; omega) | (simp at *; omega)))))⟩)
  go_enter Try.func5, Try.ntmps5
  go_wp2_with fail
  refine (tag_check t _ HG.out).mono ?_
  rintro e w1 ⟨rfl, hb1⟩
  have hT := HB.out.on hb1
  clear hb1 HB
  obtain ⟨er, her⟩ : ∃ er, er = t.err := ⟨_, rfl⟩
  rw [← her]
  have HE := Lib.hid her
  clear her
  by_cases hz : er = 0
  rotate_left
  · have n1 : (er != 0) = true := by rw [bne_iff_ne]; exact hz
    clear hz
    have HT := Lib.hid hT
    clear hT
    go_wp2_with fail
    refine (known_any _).mono ?_
    rintro e w2 ⟨rfl, hb2⟩
    go_wp2_with fail
    go_ret
    exact ⟨rfl, HT.out.bel hb2⟩
  subst hz
  have HT := Lib.hid hT
  have c0 : w1.cell? ⟨w.heap.size, 0, none⟩ = some (.string t.g) := hT.1.cell 0
  have hld := hT.load
  clear hT
  obtain ⟨g1, g2, g3, g4, g5⟩ := err_zero HE.out.symm
  obtain ⟨wq, hwq⟩ : ∃ wq, wq = t.width := ⟨_, rfl⟩
  have hw12 := widthOf_in t.sc.wide t.kind
  have hw1 : 1 ≤ wq := by rw [hwq]; exact hw12.1
  have hw2 : wq ≤ 2 := by rw [hwq]; exact hw12.2
  rw [← hwq] at g4
  clear hw12
  have HWQ := Lib.hid hwq
  clear hwq
  have hn := (nameB_iff _).1 g1
  have hn1 : 1 ≤ t.g.size := hn.1
  have hn2 : t.g.size ≤ 16 := hn.2.1
  have G1 := Lib.hid g1
  clear hn g1
  go_wp2_with fail
  refine (width_any t _).mono ?_
  rintro e w2 ⟨rfl, hb2⟩
  rw [← HWQ.out]
  have hT := HT.out.on hb2
  clear hb2 HT c0 hld
  have HT := Lib.hid hT
  have c0 : w2.cell? ⟨w.heap.size, 0, none⟩ = some (.string t.g) := hT.1.cell 0
  clear hT
  have hnn : (1 : Int) ≤ (t.g.size : Int) := by omega
  have hnx : (t.g.size : Int) ≤ 16 := by omega
  go_wp2_with fail
  refine (name_any t.g _ HG.out).mono ?_
  rintro e w3 ⟨rfl, hb3⟩
  rw [G1.out]
  have hT := HT.out.on hb3
  clear hb3 HT c0
  have HT := Lib.hid hT
  have c0 : w3.cell? ⟨w.heap.size, 0, none⟩ = some (.string t.g) := hT.1.cell 0
  have c1 : w3.cell? ⟨w.heap.size, 1, none⟩ = some (.int .i64 t.unit) := hT.1.cell 1
  have c2 : w3.cell? ⟨w.heap.size, 2, none⟩ = some (.int .i64 t.kind) := hT.1.cell 2
  have c3 : w3.cell? ⟨w.heap.size, 3, none⟩ = some (.int .i64 t.addr) := hT.1.cell 3
  have c4 : w3.cell? ⟨w.heap.size, 4, none⟩ = some (.int .i64 t.every) := hT.1.cell 4
  have hld := hT.load
  clear hT
  obtain ⟨g2a, g2b⟩ := g2
  obtain ⟨g3a, g3b⟩ := g3
  obtain ⟨g4a, g4b⟩ := g4
  obtain ⟨g5a, g5b⟩ := g5
  have e1 : IntKind.i64.wrap (t.addr + wq) = t.addr + wq := IntWalk.i64_in _ (by omega)
  have e2 : ¬ (65536 < t.addr + wq) := by omega
  have e3 : IntKind.i64.wrap (65536 - wq) = 65536 - wq := IntWalk.i64_in _ (by omega)
  have e4 : IntKind.i64.wrap (65537 - wq) = 65537 - wq := IntWalk.i64_in _ (by omega)
  have k3 : t.cells[3]? = some (.int .i64 t.addr) := rfl
  go_upto_region 9 with fail
  obtain ⟨wa, hwa⟩ : ∃ wa : World, wa = w3.alloc (.cells (t.cells.setIfInBounds 3 (.int .i64 (65536 - wq))) 29) := ⟨_, rfl⟩
  rw [← hwa]
  have HTA := Lib.hid (show TB w t wa by rw [hwa]; exact HT.out.on ((Below.refl _ _).alloc (Nat.le_refl _) _))
  have HUA := Lib.hid (show Blk wa w3.heap.size 29 (Tag.cells { t with addr := 65536 - wq }) by rw [hwa]; exact Blk.new _ _ _)
  obtain ⟨gu, hgu⟩ : ∃ gu, gu = w3.heap.size := ⟨_, rfl⟩
  rw [← hgu] at HUA ⊢
  clear hwa hgu HT c0 c1 c2 c3 c4 hld
  have hld := HTA.out.load
  go_upto_region 11 with fail
  obtain ⟨wb, hwb⟩ : ∃ wb : World, wb = wa.alloc (.cells (t.cells.setIfInBounds 3 (.int .i64 (65537 - wq))) 29) := ⟨_, rfl⟩
  rw [← hwb]
  have HT := Lib.hid (show TB w t wb by rw [hwb]; exact HTA.out.on ((Below.refl _ _).alloc (Nat.le_refl _) _))
  have HU := Lib.hid (show Blk wb gu 29 (Tag.cells { t with addr := 65536 - wq }) by rw [hwb]; exact HUA.out.alloc _)
  have HV := Lib.hid (show Blk wb wa.heap.size 29 (Tag.cells { t with addr := 65537 - wq }) by rw [hwb]; exact Blk.new _ _ _)
  obtain ⟨gv, hgv⟩ : ∃ gv, gv = wa.heap.size := ⟨_, rfl⟩
  rw [← hgv] at HV ⊢
  clear hwb hgv HTA HUA hld
  have c0 : wb.cell? ⟨w.heap.size, 0, none⟩ = some (.string t.g) := HT.out.1.cell 0
  have e5 : IntKind.i64.wrap ((t.g.size : Int) - 1) = (t.g.size : Int) - 1 := IntWalk.i64_in _ (by omega)
  have k1 : (0 : Int) ≤ (t.g.size : Int) - 1 := by omega
  have k2 : (t.g.size : Int) - 1 ≤ (t.g.size : Int) := by omega
  have k4 : ((t.g.size : Int) - 1).toNat = t.g.size - 1 := by omega
  go_wp2_with fail
  (with_reducible refine (name_any (t.g.extract 0 (t.g.size - 1)) _ (by have := HG.out; rw [size_prefix _ _ (by omega)]; omega)).mono ?_)
  rintro e w4 ⟨rfl, hb4⟩
  rw [name_less G1.out]
  have hT := HT.out.on hb4
  have hU := HU.out.below hb4 HU.out.lt
  have hV := HV.out.below hb4 HV.out.lt
  clear HT HU HV hb4 c0
  have HT := Lib.hid hT
  have HU := Lib.hid hU
  have HV := Lib.hid hV
  have c0 : w4.cell? ⟨w.heap.size, 0, none⟩ = some (.string t.g) := hT.1.cell 0
  clear hT hU hV
  have p1 : decide ((1 : Int) < (t.g.size : Int)) = decide (1 < t.g.size) := by rw [decide_eq_decide]; omega
  obtain ⟨p, hp⟩ : ∃ p, p = decide (1 < t.g.size) := ⟨_, rfl⟩
  rw [← hp] at p1 ⊢
  clear hp
  have hcat : ∀ (c : UInt8) (W : World), (Op.stringOp .add t.g ⟨#[c]⟩).run Try.prog W = .ok (.string (t.g ++ ⟨#[c]⟩)) W := fun c W => run_string_add_sum W t.g ⟨#[c]⟩ (by have : (⟨#[c]⟩ : ByteArray).size = 1 := rfl; rw [this]; omega)
  have HCAT := Lib.hid hcat
  clear hcat
  have hc1 := HCAT.out 45
  have hc2 := HCAT.out 32
  go_wp2_with fail
  (with_reducible refine (name_any (t.g ++ ⟨#[45]⟩) _ (by rw [size_add]; omega)).mono ?_)
  rintro e w5 ⟨rfl, hb5⟩
  rw [name_more G1.out]
  have hT := HT.out.on hb5
  have hU := HU.out.below hb5 HU.out.lt
  have hV := HV.out.below hb5 HV.out.lt
  clear HT HU HV hb5 c0
  have HT := Lib.hid hT
  have HU := Lib.hid hU
  have HV := Lib.hid hV
  have c0 : w5.cell? ⟨w.heap.size, 0, none⟩ = some (.string t.g) := hT.1.cell 0
  clear hT hU hV
  have q1 : decide ((t.g.size : Int) < 16) = decide (t.g.size < 16) := by rw [decide_eq_decide]; omega
  obtain ⟨q, hq⟩ : ∃ q, q = decide (t.g.size < 16) := ⟨_, rfl⟩
  rw [← hq] at q1 ⊢
  clear hq
  go_wp2_with fail
  (with_reducible refine (name_any (t.g ++ ⟨#[32]⟩) _ (by rw [size_add]; omega)).mono ?_)
  rintro e w6 ⟨rfl, hb6⟩
  rw [name_blank]
  have hT := HT.out.on hb6
  have hU := HU.out.below hb6 HU.out.lt
  have hV := HV.out.below hb6 HV.out.lt
  clear HT HU HV hb6 c0
  have HT := Lib.hid hT
  have HU := Lib.hid hU
  have HV := Lib.hid hV
  clear hT
  have l1 := blk_load hU
  have l2 := blk_load hV
  clear hU hV
  go_wp2_with fail
  (with_reducible refine (tag_check { t with addr := 65536 - wq } _ HG.out).mono ?_)
  rintro e w7 ⟨rfl, hb7⟩
  rw [err_addr HE.out.symm, if_neg (by rw [← HWQ.out]; omega)]
  have hT := HT.out.on hb7
  have hV := HV.out.below hb7 HV.out.lt
  clear HT HU HV hb7 l1 l2
  have HT := Lib.hid hT
  clear hT
  have l2 := blk_load hV
  clear hV
  go_wp2_with fail
  (with_reducible refine (tag_check { t with addr := 65537 - wq } _ HG.out).mono ?_)
  rintro e w8 ⟨rfl, hb8⟩
  rw [err_addr HE.out.symm, if_pos (by rw [← HWQ.out]; omega)]
  have hT := HT.out.on hb8
  clear HT hb8 l2
  have HT := Lib.hid hT
  clear hT
  go_wp2_with fail
  (with_reducible refine (known_any _).mono ?_)
  rintro e w9 ⟨rfl, hb9⟩
  go_wp2_with fail
  go_ret
  exact ⟨rfl, HT.out.bel hb9⟩

theorem own : ownKnob Try.prog.godebug = none := by kernel_rfl

set_option maxRecDepth 100000 in
theorem lifted (os : Os) (started : os.Started) (H : Type) (enc : TypeId × Value → H) :
    ReturnsInHanded {} Try.checked os 5 .any (Rows.tagsEndsSpec.pre6 enc Try.prog Try.f5 Rows.tagsEndsRow.domain false) (Rows.tagsEndsSpec.post enc Try.prog Try.f5 false true false false) := by
  refine law_lifted (C := Try.checked) (tb := 4) own started (by kernel_rfl) Try.func5
    (ChangeSpec.witness6 (enc := enc) (C := Try.checked) false ⟨#[], #[.agg #[.string ByteArray.empty, .int .i64 0, .int .i64 0, .int .i64 0, .int .i64 0, .bool false, .bool false, .bool false, .int .i64 0, .int .i64 0, .int .i64 0, .int .i64 0, .int .i64 0, .bool false, .bool false, .bool false, .int .i64 0, .int .i64 0, .int .i64 0]], []⟩ 8 (by kernel_rfl) (by kernel_rfl) (by kernel_rfl) (by kernel_rfl))
    rfl (by kernel_rfl) (by kernel_rfl) (by kernel_rfl) Try.underlying4 (fun ds h => ?_) ?_
  · rw [show Try.f5.params = #[29] from Try.params5] at h
    match ds, h with
    | [_], _ => rfl
  · intro W base args ds before hval hA hlt hsz
    rw [show Try.f5.params = #[29] from Try.params5] at hA hval hsz
    obtain ⟨v0, vs0, d0, ds0, p0, q0, hargs, rfl, rfl, h0, r0⟩ := trodAll_cons hA
    obtain ⟨rfl, rfl, rfl⟩ := trodAll_nil r0
    obtain rfl : args = #[v0] := by cases args; simp_all
    obtain ⟨t, rfl, hfit⟩ := open_tag (hval 0 _ v0 rfl rfl) h0
    exact walk t W hfit

theorem proved : Rows.TagsEndsSaid :=
  OpenClaim.holds_of_wide 5 Try.f5 rfl rfl rfl rfl rfl rfl rfl ⟨rfl, rfl, rfl, rfl, rfl⟩ rfl rfl rfl rfl rfl (by kernel_rfl) Try.func5 (by kernel_rfl)
    (of_decide_eq_true (by kernel_rfl)) (by unfold Func.isWrapper; rw [if_neg (of_decide_eq_false (by kernel_rfl))]; exact ⟨rfl, rfl⟩)
    (fun os started H enc _ => lifted os started H enc)
#print axioms proved
end TagsEnds
end Go.Proofs.Ythnhholpkomdhaa
