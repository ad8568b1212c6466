/-
  What is proved here: the law TagsKnown returns true. Conditions: none beyond the form's.
-/
import Derived.Test.YthnhholpkomdhaaTagKnown
import Derived.Test.YthnhholpkomdhaaTagSub
import Derived.Test.YthnhholpkomdhaaIntRow
import Derived.Laws.Concat
import Derived.Laws.BytesArg
import Derived.Laws.Cover1
import Derived.OwnWalk
import Derived.Deep.AppendLies
namespace Go.Proofs.Ythnhholpkomdhaa
namespace TagsKnown
open Go.ChangeShapes Go.WideShapes Go.ChangeAt Go.RowKit Go.Deep
attribute [local go_sem ↓ high] loadTag_eq storeTag_eq mkTags_eq
attribute [local go_sem] run_storeTag_new run_loadTag_new

def On (w w' : World) : Prop := Below w.heap.size w w'
theorem On.refl (w : World) : On w w := Below.refl _ _
theorem On.on {w wa wb : World} (h : On w wa) (hb : Below wa.heap.size wa wb) : On w wb := Below.trans h (hb.mono h.size)
theorem On.drewN {w wa : World} (h : On w wa) (n : Nat) : On w (wa.drewN n) := below_drewN h n
theorem On.alloc {w wa : World} (h : On w wa) (x : Obj) : On w (wa.alloc x) := Below.alloc h h.size x
theorem blk_load {w : World} {g : Nat} {t : Tag} (h : Blk w g 29 t.cells) : (loadTag ⟨g, 0, none⟩).run Try.prog w = .ok (.agg t.cells) w :=
  run_loadVar_row _ _ _ _ _ _ _ h tagU rfl tagI
theorem name_is (g : ByteArray) (b : Bool) (w : World) (hb : nameB g = b) (hs : g.size ≤ 9223372036854775807) :
    Calls Try.prog 9 #[.string g] w fun e w' => e = .returned (.bool b) ∧ Below w.heap.size w w' := by
  refine (name_any g w hs).mono ?_
  rintro e w' ⟨rfl, h⟩
  exact ⟨by rw [hb], h⟩
def nT : Tag := oneT ⟨#[116]⟩
def tT : Tag := { nT with sc := { nT.sc with wide := true }, addr := 65535 }
def uT : Tag := { tT with addr := 65534 }
def vT : Tag := { nT with kind := 1, sc := { nT.sc with mul := 2 } }
def wT : Tag := { nT with unit := 248 }
def xT : Tag := { nT with every := 1048577 }
def yT : Tag := { nT with bd := { nT.bd with dead := -1 } }
def zT : Tag := { nT with li := { nT.li with hy := -1 } }
def nine : List Tag := [nT, tT, uT, vT, wT, xT, yT, zT, t0]
def errs9 : List Int := [0, 21, 0, 25, 24, 3, 26, 27, 8]
theorem nine_err : ∀ k, k < 9 → (nine.getD k t0).err = errs9.getD k 0 := by decide +kernel
theorem nine_fit : ∀ k, k < 9 → (nine.getD k t0).g.size ≤ 9223372036854775807 := by decide +kernel
/-- the seven tags in memory. -/
structure Seven (w w' : World) (gt gu gv gw gx gy gz : Nat) : Prop where
  t : Blk w' gt 29 tT.cells
  u : Blk w' gu 29 uT.cells
  v : Blk w' gv 29 vT.cells
  q : Blk w' gw 29 wT.cells
  x : Blk w' gx 29 xT.cells
  y : Blk w' gy 29 yT.cells
  z : Blk w' gz 29 zT.cells
  on : On w w'
theorem blk_on {wa wb : World} {g : Nat} {t : TypeId} {c : Array Value} (h : Blk wa g t c) (hb : Below wa.heap.size wa wb) : Blk wb g t c := h.below hb h.lt
theorem blk_drewN {wa : World} {g : Nat} {t : TypeId} {c : Array Value} (h : Blk wa g t c) (n : Nat) : Blk (wa.drewN n) g t c := h
theorem Seven.on_ {w wa wb : World} {gt gu gv gw gx gy gz : Nat} (h : Seven w wa gt gu gv gw gx gy gz) (hb : Below wa.heap.size wa wb) : Seven w wb gt gu gv gw gx gy gz :=
  ⟨blk_on h.t hb, blk_on h.u hb, blk_on h.v hb, blk_on h.q hb, blk_on h.x hb, blk_on h.y hb, blk_on h.z hb, h.on.on hb⟩
theorem Seven.drewN {w wa : World} {gt gu gv gw gx gy gz : Nat} (h : Seven w wa gt gu gv gw gx gy gz) (n : Nat) : Seven w (wa.drewN n) gt gu gv gw gx gy gz :=
  ⟨h.t, h.u, h.v, h.q, h.x, h.y, h.z, h.on.drewN n⟩
theorem run_nine (W : World) : (mkTags 9 #[(0, .agg (oneT ⟨#[116]⟩).cells), (1, .agg tT.cells), (2, .agg uT.cells), (3, .agg vT.cells), (4, .agg wT.cells), (5, .agg xT.cells), (6, .agg yT.cells), (7, .agg zT.cells), (8, .agg #[.string ⟨#[]⟩, .int .i64 0, .int .i64 0, .int .i64 0, .int .i64 0, .bool false, .bool false, .bool false, .int .i64 0, .int .i64 0, .int .i64 0, .int .i64 0, .int .i64 0, .bool false, .bool false, .bool false, .int .i64 0, .int .i64 0, .int .i64 0])]).run Try.prog W = .ok (.slice (some ⟨W.heap.size, 0, none⟩) 9 9) (W.alloc (.cells (rowOf nine) 29)) :=
  run_mkTags W nine 9 _ rfl rfl (by omega) (by omega)

theorem own_below {w w' : World} {base : Nat} {e : TypeId} {size n : Nat} {v : Value} {xs : List Value} (h : w.ownsRow base e size v n xs) (hb : Below w.heap.size w w') : w'.ownsRow base e size v n xs :=
  h.kept (row := none) ⟨hb.os, hb.tape, hb.output, hb.size, fun i hi _ => hb.block i hi⟩ (by cases v.ownBlock <;> simp)
theorem find_b : findOf [oneT ⟨#[97]⟩, oneT ⟨#[98]⟩] ⟨#[98]⟩ = 1 := by decide +kernel
theorem find_c : findOf [oneT ⟨#[97]⟩, oneT ⟨#[98]⟩] ⟨#[99]⟩ = -1 := by decide +kernel
theorem find_is (A : Option Addr) (n ca : Nat) (L : List Tag) (g : ByteArray) (r : Int) (w : World) (hn : L.length = n) (hA : TagsAt w A L) (hlen : n ≤ 9223372036854775807) (h : findOf L g = r) :
    Calls Try.prog 19 #[.slice A n ca, .string g] w fun e w' => e = .returned (.int .i64 r) ∧ w' = w := by
  subst hn
  refine (find_8 A ca L g w hA hlen).mono ?_
  rintro e w' ⟨rfl, hb⟩
  exact ⟨by rw [h], hb⟩
theorem same_tags2 (A B : Option Addr) (n ca cb : Nat) (L : List Tag) (w : World) (hn : L.length = n) (hA : TagsAt w A L) (hB : TagsAt w B L) (hlen : n ≤ 140737488351232) :
    Calls Try.prog 23 #[.slice A n ca, .slice B n cb] w fun e w' => e = .returned (.bool true) ∧ Below w.heap.size w w' := by
  subst hn
  exact same_tags A B ca cb L w hA hB hlen
theorem ba_err : allOf [oneT ⟨#[98]⟩, oneT ⟨#[97]⟩] = (29, 1) := by decide +kernel
def manyT (i : Nat) : Tag := oneT (⟨#[97]⟩ ++ strOfNums [65 + (i / 26 : Nat), 97 + (i % 26 : Nat)])
def many (k : Nat) : List Tag := (List.range k).map manyT
theorem many_len (k : Nat) : (many k).length = k := by simp [many]
theorem many_more (k : Nat) : many (k + 1) = many k ++ [manyT k] := by simp [many, List.range_succ]
theorem many_take : (many 65).take 64 = many 64 := by rw [many_more]; simp [many]
theorem many_err : allOf (many 65) = (34, 0) := by unfold allOf; rw [if_pos (by rw [many_len]; omega)]
theorem many_ok : allOf (many 64) = (0, 0) := by decide +kernel
theorem many_fit : NamesFit (many 65) := names_ok (by decide +kernel)
theorem many_fit4 : NamesFit (many 64) := names_ok (by decide +kernel)

set_option maxRecDepth 100000 in
set_option maxHeartbeats 4000000 in
theorem walk (w : World) :
    Calls Try.prog 8 #[] w fun e w' => e = .returned (.bool true) ∧ Below w.heap.size w w' := by
  have HO := Lib.hid (On.refl w)
  go_enter Try.func8, Try.ntmps8
  go_wp2_with fail
  (with_reducible refine (name_is ⟨#[97]⟩ true _ (by decide +kernel) (by decide +kernel)).mono ?_)
  rintro e w1 ⟨rfl, hb⟩
  have hO := HO.out.on hb
  clear HO
  have HO := Lib.hid hO
  clear hO
  clear hb
  go_wp2_with fail
  (with_reducible refine (name_is ⟨#[84, 97, 110, 107, 49, 46, 108, 101, 118, 101, 108, 45, 50, 95, 120]⟩ true _ (by decide +kernel) (by decide +kernel)).mono ?_)
  rintro e w2 ⟨rfl, hb⟩
  have hO := HO.out.on hb
  clear HO
  have HO := Lib.hid hO
  clear hO
  clear hb
  go_wp2_with fail
  (with_reducible refine (name_is ⟨#[49, 97]⟩ false _ (by decide +kernel) (by decide +kernel)).mono ?_)
  rintro e w3 ⟨rfl, hb⟩
  have hO := HO.out.on hb
  clear HO
  have HO := Lib.hid hO
  clear hO
  clear hb
  go_wp2_with fail
  (with_reducible refine (name_is ⟨#[]⟩ false _ (by decide +kernel) (by decide +kernel)).mono ?_)
  rintro e w4 ⟨rfl, hb⟩
  have hO := HO.out.on hb
  clear HO
  have HO := Lib.hid hO
  clear hO
  clear hb
  go_wp2_with fail
  (with_reducible refine (name_is ⟨#[97, 98, 99, 100, 101, 102, 103, 104, 105, 106, 107, 108, 109, 110, 111, 112, 113]⟩ false _ (by decide +kernel) (by decide +kernel)).mono ?_)
  rintro e w5 ⟨rfl, hb⟩
  have hO := HO.out.on hb
  clear HO
  have HO := Lib.hid hO
  clear hO
  clear hb
  go_wp2_with fail
  (with_reducible refine (name_is ⟨#[97, 98, 99, 100, 101, 102, 103, 104, 105, 106, 107, 108, 109, 110, 111, 112]⟩ true _ (by decide +kernel) (by decide +kernel)).mono ?_)
  rintro e w6 ⟨rfl, hb⟩
  have hO := HO.out.on hb
  clear HO
  have HO := Lib.hid hO
  clear hO
  clear hb
  go_wp2_with fail
  (with_reducible refine (name_is ⟨#[97, 32, 98]⟩ false _ (by decide +kernel) (by decide +kernel)).mono ?_)
  rintro e w7 ⟨rfl, hb⟩
  have hO := HO.out.on hb
  clear HO
  have HO := Lib.hid hO
  clear hO
  clear hb
  go_wp2_with fail
  (with_reducible refine (name_is ⟨#[95, 97]⟩ false _ (by decide +kernel) (by decide +kernel)).mono ?_)
  rintro e w8 ⟨rfl, hb⟩
  have hO := HO.out.on hb
  clear HO
  have HO := Lib.hid hO
  clear hO
  clear hb
  go_wp2_with fail
  (with_reducible refine (name_is ⟨#[195, 169]⟩ false _ (by decide +kernel) (by decide +kernel)).mono ?_)
  rintro e w9 ⟨rfl, hb⟩
  have hO := HO.out.on hb
  clear HO
  have HO := Lib.hid hO
  clear hO
  clear hb
  go_wp2_with fail
  (with_reducible refine (name_is ⟨#[97, 195, 169]⟩ false _ (by decide +kernel) (by decide +kernel)).mono ?_)
  rintro e w10 ⟨rfl, hb⟩
  have hO := HO.out.on hb
  clear HO
  have HO := Lib.hid hO
  clear hO
  clear hb
  go_wp2_with fail
  (with_reducible refine (name_is ⟨#[97, 0]⟩ false _ (by decide +kernel) (by decide +kernel)).mono ?_)
  rintro e w11 ⟨rfl, hb⟩
  have hO := HO.out.on hb
  clear HO
  have HO := Lib.hid hO
  clear hO
  clear hb
  go_wp2_with fail
  (with_reducible refine (one_any ⟨#[116]⟩ _).mono ?_)
  rintro e w12 ⟨rfl, hb⟩
  have hO := HO.out.on hb
  clear HO
  have HO := Lib.hid hO
  clear hO
  clear hb
  go_upto_region 5 with fail
  obtain ⟨w13, hw⟩ : ∃ wq : World, wq = w12.alloc (.cells (((oneT ⟨#[116]⟩).cells.setIfInBounds 5 (Value.bool true)).setIfInBounds 3 (Value.int .i64 65535)) 29) := ⟨_, rfl⟩
  rw [← hw]
  have HBgt := Lib.hid (show Blk w13 w12.heap.size 29 tT.cells by rw [hw]; exact Blk.new _ _ _)
  have hO : On w w13 := by rw [hw]; exact HO.out.alloc _
  clear HO
  have HO := Lib.hid hO
  obtain ⟨gt, hg⟩ : ∃ gq, gq = w12.heap.size := ⟨_, rfl⟩
  rw [← hg] at HBgt ⊢
  clear hO hw hg
  have hld := blk_load HBgt.out
  go_upto_region 7 with fail
  obtain ⟨w14, hw⟩ : ∃ wq : World, wq = w13.alloc (.cells (tT.cells.setIfInBounds 3 (Value.int .i64 65534)) 29) := ⟨_, rfl⟩
  rw [← hw]
  have HBgu := Lib.hid (show Blk w14 w13.heap.size 29 uT.cells by rw [hw]; exact Blk.new _ _ _)
  have hO : On w w14 := by rw [hw]; exact HO.out.alloc _
  clear HO
  have HO := Lib.hid hO
  have HBgt := Lib.hid (show Blk w14 gt 29 tT.cells by rw [hw]; exact HBgt.out.alloc _)
  obtain ⟨gu, hg⟩ : ∃ gq, gq = w13.heap.size := ⟨_, rfl⟩
  rw [← hg] at HBgu ⊢
  clear hO hw hg
  clear hld
  go_wp2_with fail
  (with_reducible refine (one_any ⟨#[116]⟩ _).mono ?_)
  rintro e w15 ⟨rfl, hb⟩
  have hO := HO.out.on hb
  clear HO
  have HO := Lib.hid hO
  clear hO
  have HBgt := Lib.hid (blk_on HBgt.out hb)
  have HBgu := Lib.hid (blk_on HBgu.out hb)
  clear hb
  go_upto_region 10 with fail
  obtain ⟨w16, hw⟩ : ∃ wq : World, wq = w15.alloc (.cells (((oneT ⟨#[116]⟩).cells.setIfInBounds 2 (Value.int .i64 1)).setIfInBounds 8 (Value.int .i64 2)) 29) := ⟨_, rfl⟩
  rw [← hw]
  have HBgv := Lib.hid (show Blk w16 w15.heap.size 29 vT.cells by rw [hw]; exact Blk.new _ _ _)
  have hO : On w w16 := by rw [hw]; exact HO.out.alloc _
  clear HO
  have HO := Lib.hid hO
  have HBgt := Lib.hid (show Blk w16 gt 29 tT.cells by rw [hw]; exact HBgt.out.alloc _)
  have HBgu := Lib.hid (show Blk w16 gu 29 uT.cells by rw [hw]; exact HBgu.out.alloc _)
  obtain ⟨gv, hg⟩ : ∃ gq, gq = w15.heap.size := ⟨_, rfl⟩
  rw [← hg] at HBgv ⊢
  clear hO hw hg
  go_wp2_with fail
  (with_reducible refine (one_any ⟨#[116]⟩ _).mono ?_)
  rintro e w17 ⟨rfl, hb⟩
  have hO := HO.out.on hb
  clear HO
  have HO := Lib.hid hO
  clear hO
  have HBgt := Lib.hid (blk_on HBgt.out hb)
  have HBgu := Lib.hid (blk_on HBgu.out hb)
  have HBgv := Lib.hid (blk_on HBgv.out hb)
  clear hb
  go_upto_region 12 with fail
  obtain ⟨w18, hw⟩ : ∃ wq : World, wq = w17.alloc (.cells ((oneT ⟨#[116]⟩).cells.setIfInBounds 1 (Value.int .i64 248)) 29) := ⟨_, rfl⟩
  rw [← hw]
  have HBgw := Lib.hid (show Blk w18 w17.heap.size 29 wT.cells by rw [hw]; exact Blk.new _ _ _)
  have hO : On w w18 := by rw [hw]; exact HO.out.alloc _
  clear HO
  have HO := Lib.hid hO
  have HBgt := Lib.hid (show Blk w18 gt 29 tT.cells by rw [hw]; exact HBgt.out.alloc _)
  have HBgu := Lib.hid (show Blk w18 gu 29 uT.cells by rw [hw]; exact HBgu.out.alloc _)
  have HBgv := Lib.hid (show Blk w18 gv 29 vT.cells by rw [hw]; exact HBgv.out.alloc _)
  obtain ⟨gw, hg⟩ : ∃ gq, gq = w17.heap.size := ⟨_, rfl⟩
  rw [← hg] at HBgw ⊢
  clear hO hw hg
  go_wp2_with fail
  (with_reducible refine (one_any ⟨#[116]⟩ _).mono ?_)
  rintro e w19 ⟨rfl, hb⟩
  have hO := HO.out.on hb
  clear HO
  have HO := Lib.hid hO
  clear hO
  have HBgt := Lib.hid (blk_on HBgt.out hb)
  have HBgu := Lib.hid (blk_on HBgu.out hb)
  have HBgv := Lib.hid (blk_on HBgv.out hb)
  have HBgw := Lib.hid (blk_on HBgw.out hb)
  clear hb
  go_upto_region 14 with fail
  obtain ⟨w20, hw⟩ : ∃ wq : World, wq = w19.alloc (.cells ((oneT ⟨#[116]⟩).cells.setIfInBounds 4 (Value.int .i64 1048577)) 29) := ⟨_, rfl⟩
  rw [← hw]
  have HBgx := Lib.hid (show Blk w20 w19.heap.size 29 xT.cells by rw [hw]; exact Blk.new _ _ _)
  have hO : On w w20 := by rw [hw]; exact HO.out.alloc _
  clear HO
  have HO := Lib.hid hO
  have HBgt := Lib.hid (show Blk w20 gt 29 tT.cells by rw [hw]; exact HBgt.out.alloc _)
  have HBgu := Lib.hid (show Blk w20 gu 29 uT.cells by rw [hw]; exact HBgu.out.alloc _)
  have HBgv := Lib.hid (show Blk w20 gv 29 vT.cells by rw [hw]; exact HBgv.out.alloc _)
  have HBgw := Lib.hid (show Blk w20 gw 29 wT.cells by rw [hw]; exact HBgw.out.alloc _)
  obtain ⟨gx, hg⟩ : ∃ gq, gq = w19.heap.size := ⟨_, rfl⟩
  rw [← hg] at HBgx ⊢
  clear hO hw hg
  go_wp2_with fail
  (with_reducible refine (one_any ⟨#[116]⟩ _).mono ?_)
  rintro e w21 ⟨rfl, hb⟩
  have hO := HO.out.on hb
  clear HO
  have HO := Lib.hid hO
  clear hO
  have HBgt := Lib.hid (blk_on HBgt.out hb)
  have HBgu := Lib.hid (blk_on HBgu.out hb)
  have HBgv := Lib.hid (blk_on HBgv.out hb)
  have HBgw := Lib.hid (blk_on HBgw.out hb)
  have HBgx := Lib.hid (blk_on HBgx.out hb)
  clear hb
  go_upto_region 16 with fail
  obtain ⟨w22, hw⟩ : ∃ wq : World, wq = w21.alloc (.cells ((oneT ⟨#[116]⟩).cells.setIfInBounds 11 (Value.int .i64 (-1))) 29) := ⟨_, rfl⟩
  rw [← hw]
  have HBgy := Lib.hid (show Blk w22 w21.heap.size 29 yT.cells by rw [hw]; exact Blk.new _ _ _)
  have hO : On w w22 := by rw [hw]; exact HO.out.alloc _
  clear HO
  have HO := Lib.hid hO
  have HBgt := Lib.hid (show Blk w22 gt 29 tT.cells by rw [hw]; exact HBgt.out.alloc _)
  have HBgu := Lib.hid (show Blk w22 gu 29 uT.cells by rw [hw]; exact HBgu.out.alloc _)
  have HBgv := Lib.hid (show Blk w22 gv 29 vT.cells by rw [hw]; exact HBgv.out.alloc _)
  have HBgw := Lib.hid (show Blk w22 gw 29 wT.cells by rw [hw]; exact HBgw.out.alloc _)
  have HBgx := Lib.hid (show Blk w22 gx 29 xT.cells by rw [hw]; exact HBgx.out.alloc _)
  obtain ⟨gy, hg⟩ : ∃ gq, gq = w21.heap.size := ⟨_, rfl⟩
  rw [← hg] at HBgy ⊢
  clear hO hw hg
  go_wp2_with fail
  (with_reducible refine (one_any ⟨#[116]⟩ _).mono ?_)
  rintro e w23 ⟨rfl, hb⟩
  have hO := HO.out.on hb
  clear HO
  have HO := Lib.hid hO
  clear hO
  have HBgt := Lib.hid (blk_on HBgt.out hb)
  have HBgu := Lib.hid (blk_on HBgu.out hb)
  have HBgv := Lib.hid (blk_on HBgv.out hb)
  have HBgw := Lib.hid (blk_on HBgw.out hb)
  have HBgx := Lib.hid (blk_on HBgx.out hb)
  have HBgy := Lib.hid (blk_on HBgy.out hb)
  clear hb
  go_upto_region 18 with fail
  obtain ⟨w24, hw⟩ : ∃ wq : World, wq = w23.alloc (.cells ((oneT ⟨#[116]⟩).cells.setIfInBounds 18 (Value.int .i64 (-1))) 29) := ⟨_, rfl⟩
  rw [← hw]
  have HBgz := Lib.hid (show Blk w24 w23.heap.size 29 zT.cells by rw [hw]; exact Blk.new _ _ _)
  have hO : On w w24 := by rw [hw]; exact HO.out.alloc _
  clear HO
  have HO := Lib.hid hO
  have HBgt := Lib.hid (show Blk w24 gt 29 tT.cells by rw [hw]; exact HBgt.out.alloc _)
  have HBgu := Lib.hid (show Blk w24 gu 29 uT.cells by rw [hw]; exact HBgu.out.alloc _)
  have HBgv := Lib.hid (show Blk w24 gv 29 vT.cells by rw [hw]; exact HBgv.out.alloc _)
  have HBgw := Lib.hid (show Blk w24 gw 29 wT.cells by rw [hw]; exact HBgw.out.alloc _)
  have HBgx := Lib.hid (show Blk w24 gx 29 xT.cells by rw [hw]; exact HBgx.out.alloc _)
  have HBgy := Lib.hid (show Blk w24 gy 29 yT.cells by rw [hw]; exact HBgy.out.alloc _)
  obtain ⟨gz, hg⟩ : ∃ gq, gq = w23.heap.size := ⟨_, rfl⟩
  rw [← hg] at HBgz ⊢
  clear hO hw hg
  have H7 := Lib.hid (show Seven w w24 gt gu gv gw gx gy gz from ⟨HBgt.out, HBgu.out, HBgv.out, HBgw.out, HBgx.out, HBgy.out, HBgz.out, HO.out⟩)
  clear HBgt HBgu HBgv HBgw HBgx HBgy HBgz HO
  go_cut [9] (fun s wx => ∃ g, s = .slice (some ⟨g, 0, none⟩) 9 9 ∧ TRow wx g nine ∧ On w wx)
  case first =>
   as_aux_lemma =>
    have HS := Lib.hid (show ∀ w', Seven w w' gt gu gv gw gx gy gz → ((loadTag ⟨gt, 0, none⟩).run Try.prog w' = .ok (.agg tT.cells) w' ∧ (loadTag ⟨gu, 0, none⟩).run Try.prog w' = .ok (.agg uT.cells) w' ∧ (loadTag ⟨gv, 0, none⟩).run Try.prog w' = .ok (.agg vT.cells) w' ∧ (loadTag ⟨gw, 0, none⟩).run Try.prog w' = .ok (.agg wT.cells) w' ∧ (loadTag ⟨gx, 0, none⟩).run Try.prog w' = .ok (.agg xT.cells) w' ∧ (loadTag ⟨gy, 0, none⟩).run Try.prog w' = .ok (.agg yT.cells) w' ∧ (loadTag ⟨gz, 0, none⟩).run Try.prog w' = .ok (.agg zT.cells) w' ∧ On w w') from fun w' h => ⟨blk_load h.t, blk_load h.u, blk_load h.v, blk_load h.q, blk_load h.x, blk_load h.y, blk_load h.z, h.on⟩)
    have hrun := run_nine
    go_region_held3 (fun w' => (loadTag ⟨gt, 0, none⟩).run Try.prog w' = .ok (.agg tT.cells) w' ∧ (loadTag ⟨gu, 0, none⟩).run Try.prog w' = .ok (.agg uT.cells) w' ∧ (loadTag ⟨gv, 0, none⟩).run Try.prog w' = .ok (.agg vT.cells) w' ∧ (loadTag ⟨gw, 0, none⟩).run Try.prog w' = .ok (.agg wT.cells) w' ∧ (loadTag ⟨gx, 0, none⟩).run Try.prog w' = .ok (.agg xT.cells) w' ∧ (loadTag ⟨gy, 0, none⟩).run Try.prog w' = .ok (.agg yT.cells) w' ∧ (loadTag ⟨gz, 0, none⟩).run Try.prog w' = .ok (.agg zT.cells) w' ∧ On w w')
      (first
        | exact HS.out _ (H7.out.drewN 1)
        | exact HS.out _ (Seven.on_ (H7.out.drewN 1) hb)
        | exact HS.out _ (Seven.on_ (by assumption) hb)
        | (go_split_ands; exact HS.out _ (Seven.on_ (by assumption) hb))
        | exact HS.out _ (Seven.on_ (Seven.on_ (H7.out.drewN 1) hb) ((Below.refl _ _).alloc (Nat.le_refl _) _)))
      (first | (go_at_call 22; (with_reducible refine (one_any ⟨#[116]⟩ _).mono ?_); rintro e w' ⟨rfl, hb⟩))
    go_wp2_with fail
    go_meet
    (try go_split_ands)
    exact ⟨_, rfl, TRow.new _ _, by assumption⟩
  obtain ⟨g9, rfl, hR, hO⟩ := hcut
  clear H7
  go_upto_region 20 with fail
  obtain ⟨gi, hgi⟩ : ∃ gq, gq = wc.heap.size := ⟨_, rfl⟩
  obtain ⟨w30, hw⟩ : ∃ wq : World, wq = wc.alloc (.cells #[.int .i64 0, .int .i64 21, .int .i64 0, .int .i64 25, .int .i64 24, .int .i64 3, .int .i64 26, .int .i64 27, .int .i64 8] 3) := ⟨_, rfl⟩
  rw [← hw]
  have HI := Lib.hid (show Blk w30 gi 3 (errs9.map (Value.int .i64)).toArray by rw [hw, hgi]; exact Blk.new _ _ _)
  have HR := Lib.hid (show TRow w30 g9 nine by rw [hw]; exact hR.below ((Below.refl _ _).alloc (Nat.le_refl _) _) hR.1)
  have HO := Lib.hid (show On w w30 by rw [hw]; exact hO.alloc _)
  rw [← hgi]
  clear hw hgi hR hO
  go_wp2_with fail
  go_loopg [11] 9 (fun gg i wr => ∃ k : Nat, k ≤ 9 ∧ gg = 9 - k ∧ i = .int .i64 k ∧ TRow wr g9 nine ∧ Blk wr gi 3 (errs9.map (Value.int .i64)).toArray ∧ On w wr)
  case atStart => exact ⟨0, by omega, rfl, rfl, HR.out, HI.out, HO.out⟩
  case round =>
    clear HR HI HO
    obtain ⟨k, hk, rfl, rfl, hR, hI, hO⟩ := hrel
    by_cases hlt : k < 9
    · have HF := Lib.hid (nine_fit k hlt)
      have hL : wr.rangeAt g9 (k * 19) (nine.getD k t0).cells.toList := hR.2.2 k hlt
      have hc : wr.cell? ⟨gi, k, none⟩ = some (.int .i64 (errs9.getD k 0)) := by
        rw [hI.cell k]
        have h9 : k < errs9.length := hlt
        simp [h9]
      have he := nine_err k hlt
      obtain ⟨x, hx⟩ : ∃ x, x = nine.getD k t0 := ⟨_, rfl⟩
      rw [← hx] at hL he HF
      obtain ⟨y, hy⟩ : ∃ y, y = errs9.getD k 0 := ⟨_, rfl⟩
      rw [← hy] at hc he
      have HE := Lib.hid he
      have HR := Lib.hid hR
      have HI := Lib.hid hI
      have HO := Lib.hid hO
      clear hx hy he hR hI hO
      have hki : (k : Int) < 9 := by omega
      have hk0 : (0 : Int) ≤ (k : Int) := by omega
      have HS := Lib.hid (show ∀ w', Below wr.heap.size wr w' → ((loadTag ⟨g9, k * 19, none⟩).run Try.prog w' = .ok (.agg x.cells) w' ∧ w'.cell? ⟨gi, k, none⟩ = some (.int .i64 y) ∧ Below wr.heap.size wr w') from fun w' h => ⟨range_load (rangeAt_below hL h HR.out.1), (h.cell (p := ⟨gi, k, none⟩) HI.out.lt).trans hc, h⟩)
      have HCK := Lib.hid (show ∀ W, Calls Try.prog 13 #[.agg x.cells] W fun e w' => e = .returned (.int .i64 y) ∧ Below W.heap.size W w' from fun W => (tag_check x W HF.out).mono (fun e w' h => ⟨by rw [h.1, HE.out], h.2⟩))
      go_upto_region 23 with fail
      go_cut [106] (fun s wx => s = .bool false ∧ Below wr.heap.size wr wx)
      case first =>
       as_aux_lemma =>
        go_region_held3 (fun w' => (loadTag ⟨g9, k * 19, none⟩).run Try.prog w' = .ok (.agg x.cells) w' ∧ w'.cell? ⟨gi, k, none⟩ = some (.int .i64 y) ∧ Below wr.heap.size wr w')
          (first
            | exact HS.out _ (below_drewN (Below.refl _ _) 1)
            | exact HS.out _ (Below.trans (below_drewN (Below.refl _ _) 1) hb)
            | (go_split_ands; exact HS.out _ (Below.trans (by assumption) hb))
            | (go_split_ands; exact HS.out _ (Below.trans (by assumption) (hb.mono (Below.size (by assumption))))))
          (first | (go_at_call 13; (with_reducible refine (HCK.out _).mono ?_); rintro e w' ⟨rfl, hb⟩))
        go_wp2_with fail
        go_meet
        (try go_split_ands)
        exact ⟨rfl, by assumption⟩
      obtain ⟨rfl, hb⟩ := hcut
      go_wp2_with fail
      go_roundg (9 - (k + 1))
      case measure => omega
      case rel => exact ⟨k + 1, by omega, rfl, by go_num, HR.out.below hb HR.out.1, HI.out.below hb HI.out.lt, HO.out.on hb⟩
    · obtain rfl : k = 9 := by omega
      have HO := Lib.hid hO
      clear hR hI hO

      go_wp2_with fail
      (with_reducible refine (one_any ⟨#[98]⟩ _).mono ?_)
      rintro e w41 ⟨rfl, hb⟩
      have hO := HO.out.on hb
      clear HO
      have HO := Lib.hid hO
      clear hO
      clear hb
      go_wp2_with fail
      (with_reducible refine (one_any ⟨#[97]⟩ _).mono ?_)
      rintro e w42 ⟨rfl, hb⟩
      have hO := HO.out.on hb
      clear HO
      have HO := Lib.hid hO
      clear hO
      clear hb
      have hmk : (mkTags 2 #[(0, .agg (oneT ⟨#[98]⟩).cells), (1, .agg (oneT ⟨#[97]⟩).cells)]).run Try.prog w42 = .ok (.slice (some ⟨w42.heap.size, 0, none⟩) 2 2) (w42.alloc (.cells (rowOf [oneT ⟨#[98]⟩, oneT ⟨#[97]⟩]) 29)) := run_mkTags w42 [oneT ⟨#[98]⟩, oneT ⟨#[97]⟩] 2 _ rfl rfl (by omega) (by omega)
      have HT := Lib.hid (TRow.new w42 [oneT ⟨#[98]⟩, oneT ⟨#[97]⟩])
      go_wp2_with fail
      refine (all_at _ 2 2 [oneT ⟨#[98]⟩, oneT ⟨#[97]⟩] 29 1 _ rfl HT.out.at_ (names_ok rfl) (by omega) ba_err).mono ?_
      rintro e w43 ⟨rfl, hb⟩
      have hO := (HO.out.alloc _).on hb
      clear HO hb hmk HT
      have HO := Lib.hid hO
      clear hO
      obtain ⟨i0, hi0, hz0, hz1, hz2⟩ := info_parts infoT
      go_wp2_with fail
      go_loopg [14, 15] 65 (fun gg s i wr => ∃ k : Nat, k ≤ 65 ∧ gg = 65 - k ∧ i = .int .i64 k ∧ wr.ownsRow w.heap.size 29 19 s k (tcells (many k)) ∧ On w wr)
      case atStart => exact ⟨0, by omega, rfl, rfl, ⟨by simp [tcells, rowOf, many], .inl ⟨rfl, rfl⟩⟩, HO.out⟩
      case round =>
        clear HO
        obtain ⟨k, hk, rfl, rfl, hown, hO⟩ := hrel
        by_cases hlt : k < 65
        · have HW := Lib.hid hown
          have HO := Lib.hid hO
          clear hown hO
          have hki : (k : Int) < 65 := by omega
          have hk0 : (0 : Int) ≤ (k : Int) := by omega
          have hcv : (convert 48 9 (.slice (some ⟨wr.heap.size, 0, none⟩) 2 2)).run Try.prog (wr.alloc (.cells #[.int .u8 (65 + (k : Int) / 26), .int .u8 (97 + (k : Int) % 26)] 5)) = .ok (.string (strOfNums [65 + (k / 26 : Nat), 97 + (k % 26 : Nat)])) (wr.alloc (.cells #[.int .u8 (65 + (k : Int) / 26), .int .u8 (97 + (k : Int) % 26)] 5)) :=
            run_convert_bytes_arg _ 48 5 Try.underlying48 Try.underlying5 wr.heap.size 0 2 2 [65 + (k / 26 : Nat), 97 + (k % 26 : Nat)] rfl (fun i hi => by rw [cell_of_row _ _ _ _ _ _ (heap_alloc_last wr _)]; match i, hi with | 0, _ => simp | 1, _ => simp) 9 Try.underlying9
          obtain ⟨S, hS⟩ : ∃ S, S = strOfNums [65 + (k / 26 : Nat), 97 + (k % 26 : Nat)] := ⟨_, rfl⟩
          have hsz : S.size = 2 := by rw [hS]; simp [strOfNums]; rfl
          rw [← hS] at hcv
          obtain ⟨G, hG⟩ : ∃ G : ByteArray, G = (⟨#[97]⟩ : ByteArray) ++ S := ⟨_, rfl⟩
          have HMK := Lib.hid (show manyT k = oneT G by rw [hG, hS]; rfl)
          have hcat : ∀ W : World, (Op.stringOp .add ⟨#[97]⟩ S).run Try.prog W = .ok (.string G) W := fun W => by rw [hG]; exact run_string_add_sum W ⟨#[97]⟩ S (by rw [hsz]; show 1 + 2 ≤ _; omega)
          clear hS hG
          clear hsz
          go_wp2_with fail
          (with_reducible refine (one_any G _).mono ?_)
          rintro e w2 ⟨rfl, hb⟩
          have HW2 := Lib.hid (own_below (HW.out.alloc _) hb)
          have HO2 := Lib.hid ((HO.out.alloc _).on hb)
          have hm : (mkTags 1 #[(0, .agg (oneT G).cells)]).run Try.prog w2 = .ok (.slice (some ⟨w2.heap.size, 0, none⟩) 1 1) (w2.alloc (.cells (rowOf [oneT G]) 29)) := run_mkTags w2 [oneT G] 1 _ rfl rfl (by decide) (by decide)
          have hone : ∀ u ∈ (oneT G).cells.toList, u.oneCell' = true := fun u hu => by have := (oneT G).one; rw [← Array.all_toList, List.all_eq_true] at this; exact this u hu
          have q1 : k + 1 ≤ maxLen := by unfold maxLen; omega
          have q2 : (k + 1) * 128 ≤ 140737488355328 := by omega
          have q3 : w.heap.size ≤ (w2.alloc (.cells (rowOf [oneT G]) 29)).heap.size := by have := HO2.out.size; simp; omega
          have hnews : ∀ (j : Nat) (u : Value), (oneT G).cells.toList[j]? = some u → (w2.alloc (.cells (rowOf [oneT G]) 29)).cell? ((⟨w2.heap.size, 0, none⟩ : Addr).add j) = some u := by rw [← tcells_one]; exact World.news_of_block (cs := rowOf [oneT G]) (t := 29) (fr := (0, 0)) (heap_alloc_new w2 _)
          have TT := fun {ops : Array Oper} {rest : List Oper} {o : Oper} {a : Act} {Q : Exit → Act → World → Prop} (hgd : o.guard = none) (ho : o.op = .call { callee := .builtin .append, args := #[.tmp 118, .tmp 131], argTypes := #[35, 35] }) (v : Value) (hs : a.eval (.tmp 118) = v) (hown : (w2.alloc (.cells (rowOf [oneT G]) 29)).ownsRow w.heap.size 29 19 v k (tcells (many k))) hx h => wpList_append_own (P := Try.prog) (ops := ops) (rest := rest) (o := o) (a := a) (Q := Q) _ hgd (.tmp 118) (.tmp 131) 35 ho w.heap.size 29 i0 _ 19 128 Try.underlying35 hi0 hz0 hz1 hz2 t0.size (by omega) v k (tcells (many k)) hs hown ⟨w2.heap.size, 0, none⟩ 1 1 (oneT G).cells.toList hx (by rw [cells_len]) hnews hone q1 q2 q3 h
          have GG : ∀ (v : Value) (w3 : World), w2.ownsRow w.heap.size 29 19 v k (tcells (many k)) → (w2.alloc (.cells (rowOf [oneT G]) 29)).grownBy w3 v.ownBlock → On w w3 := fun v w3 hv hgrow => (HO2.out.alloc _).grown hgrow q3 (fun q hq => (hv.lt q hq).1)
          clear hb q1 q2 q3 hone hnews hcv hcat
          go_wp2_with (at_builtin; refine TT rfl rfl _ rfl (HW2.out.alloc _) rfl ?_; intro v' w3 hown3 hgrow _; have hO3 : On w w3 := GG _ w3 HW2.out hgrow)
          go_roundg (65 - (k + 1))
          case measure => omega
          case rel =>
            refine ⟨k + 1, by omega, rfl, by go_num, ?_, hO3⟩
            rw [many_more, tcells_app, HMK.out]
            exact hown3
        · obtain rfl : k = 65 := by omega
          have hcap : ∀ A c, u14 = .slice A 65 c → 65 ≤ c := by
            intro A c h
            rcases hown.2 with ⟨h1, h0⟩ | ⟨g, cap, cur, h1, _, _, hn, _⟩
            · omega
            · rw [h1] at h
              injection h with _ _ h3
              rw [← h3]; exact hn
          obtain ⟨A', c', rfl, hA'⟩ := tags_of_own (O := many 65) (by rw [many_len]; exact hown)
          have hc65 : 65 ≤ c' := hcap A' c' (by rw [many_len])
          clear hcap
          have hA6 : TagsAt wr A' (many 64) := by rw [← many_take]; exact take_at hA' 64
          rw [many_len]
          have HA := Lib.hid hA'
          have HA6 := Lib.hid hA6
          have HO := Lib.hid hO
          clear hown hO hA' hA6
          go_wp2_with fail
          (with_reducible refine (all_at A' 65 c' (many 65) 34 0 _ (many_len 65) HA.out many_fit (by omega) many_err).mono ?_)
          rintro e w51 ⟨rfl, hb⟩
          have HO1 := Lib.hid (HO.out.on hb)
          have HA61 := Lib.hid (HA6.out.below hb (Nat.le_refl _))
          clear HO HA HA6 hb
          go_wp2_with fail
          (with_reducible refine (all_at A' 64 c' (many 64) 0 0 _ (many_len 64) HA61.out many_fit4 (by omega) many_ok).mono ?_)
          rintro e w52 ⟨rfl, hb⟩
          have HO2 := Lib.hid (HO1.out.on hb)
          clear HO1 HA61 hb hc65
          go_wp2_with fail
          (with_reducible refine (one_any ⟨#[97]⟩ _).mono ?_)
          rintro e w53 ⟨rfl, hb⟩
          have HO3 := Lib.hid (HO2.out.on hb)
          clear HO2 hb
          go_wp2_with fail
          (with_reducible refine (one_any ⟨#[98]⟩ _).mono ?_)
          rintro e w54 ⟨rfl, hb⟩
          have HO4 := Lib.hid (HO3.out.on hb)
          clear HO3 hb
          have hmk : ∀ W : World, (mkTags 2 #[(0, .agg (oneT ⟨#[97]⟩).cells), (1, .agg (oneT ⟨#[98]⟩).cells)]).run Try.prog W = .ok (.slice (some ⟨W.heap.size, 0, none⟩) 2 2) (W.alloc (.cells (rowOf [oneT ⟨#[97]⟩, oneT ⟨#[98]⟩]) 29)) := fun W => run_mkTags W [oneT ⟨#[97]⟩, oneT ⟨#[98]⟩] 2 _ rfl rfl (by omega) (by omega)
          go_upto_region 34 with fail
          obtain ⟨gab, hg⟩ : ∃ gq, gq = w54.heap.size := ⟨_, rfl⟩
          obtain ⟨w55, hw⟩ : ∃ wq : World, wq = w54.alloc (.cells (rowOf [oneT ⟨#[97]⟩, oneT ⟨#[98]⟩]) 29) := ⟨_, rfl⟩
          rw [← hw]
          have HT := Lib.hid (show TRow w55 gab [oneT ⟨#[97]⟩, oneT ⟨#[98]⟩] by rw [hw, hg]; exact TRow.new _ _)
          have HO5 := Lib.hid (show On w w55 by rw [hw]; exact HO4.out.alloc _)
          rw [← hg]
          clear hw hg HO4
          go_wp2_with fail
          (with_reducible refine (find_is (some ⟨gab, 0, none⟩) 2 2 [oneT ⟨#[97]⟩, oneT ⟨#[98]⟩] ⟨#[98]⟩ 1 _ rfl HT.out.at_ (by omega) find_b).mono ?_)
          rintro e w56 ⟨rfl, rfl⟩
          go_wp2_with fail
          (with_reducible refine (find_is (some ⟨gab, 0, none⟩) 2 2 [oneT ⟨#[97]⟩, oneT ⟨#[98]⟩] ⟨#[99]⟩ (-1) _ rfl HT.out.at_ (by omega) find_c).mono ?_)
          rintro e w57 ⟨rfl, rfl⟩
          go_wp2_with fail
          (with_reducible refine (one_any ⟨#[97]⟩ _).mono ?_)
          rintro e w58 ⟨rfl, hb⟩
          have HO6 := Lib.hid (HO5.out.on hb)
          have HT6 := Lib.hid (HT.out.below hb HT.out.1)
          clear HO5 HT hb
          go_wp2_with fail
          (with_reducible refine (one_any ⟨#[98]⟩ _).mono ?_)
          rintro e w59 ⟨rfl, hb⟩
          have HO7 := Lib.hid (HO6.out.on hb)
          have HT7 := Lib.hid (HT6.out.below hb HT6.out.1)
          clear HO6 HT6 hb
          go_wp2_with fail
          have hlt7 : gab < w59.heap.size := HT7.out.1
          have hmk7 := (HT7.out.below ((Below.refl w59.heap.size w59).alloc (Nat.le_refl _) (.cells (rowOf [oneT ⟨#[97]⟩, oneT ⟨#[98]⟩]) 29)) hlt7).at_
          (with_reducible refine (same_tags2 _ _ 2 2 2 [oneT ⟨#[97]⟩, oneT ⟨#[98]⟩] _ rfl hmk7 (TRow.new _ _).at_ (by omega)).mono ?_)
          rintro e w60 ⟨rfl, hb⟩
          have HO8 := Lib.hid ((HO7.out.alloc _).on hb)
          clear HO7 HT7 hb
          go_wp2_with fail
          refine (known_any _).mono ?_
          rintro e w61 ⟨rfl, hb⟩
          go_wp2_with fail
          go_ret
          exact ⟨rfl, HO8.out.on hb⟩
    

theorem own : ownKnob Try.prog.godebug = none := by kernel_rfl

set_option maxRecDepth 100000 in
theorem lifted (os : Os) (started : os.Started) (H : Type) (enc : TypeId × Value → H) :
    ReturnsInHanded {} Try.checked os 8 .any (Rows.tagsKnownSpec.pre6 enc Try.prog Try.f8 Rows.tagsKnownRow.domain false) (Rows.tagsKnownSpec.post enc Try.prog Try.f8 false true false false) := by
  refine law_lifted (C := Try.checked) (tb := 4) own started (by kernel_rfl) Try.func8
    (ChangeSpec.witness6 (enc := enc) (C := Try.checked) false ⟨#[], #[], []⟩ 8 (by kernel_rfl) (by kernel_rfl) (by kernel_rfl) (by kernel_rfl))
    rfl (by kernel_rfl) (by kernel_rfl) (by kernel_rfl) Try.underlying4 (fun ds h => ?_) ?_
  · rw [show Try.f8.params = #[] from Try.params8] at h
    match ds, h with
    | [], _ => rfl
  · intro W base args ds before _ hA _ _
    obtain ⟨rfl, rfl, rfl⟩ := trodAll_none (show DataW.TrodAll enc Try.prog W 0 (fun _ => true) true [] args.toList ds before from hA)
    exact walk W

theorem proved : Rows.TagsKnownSaid :=
  OpenClaim.holds_of_wide 8 Try.f8 rfl rfl rfl rfl rfl rfl rfl ⟨rfl, rfl, rfl, rfl, rfl⟩ rfl rfl rfl rfl rfl (by kernel_rfl) Try.func8 (by kernel_rfl)
    (of_decide_eq_true (by kernel_rfl)) (by unfold Func.isWrapper; rw [if_neg (of_decide_eq_false (by kernel_rfl))]; exact ⟨rfl, rfl⟩)
    (fun os started H enc _ => lifted os started H enc)
#print axioms proved
end TagsKnown
end Go.Proofs.Ythnhholpkomdhaa
