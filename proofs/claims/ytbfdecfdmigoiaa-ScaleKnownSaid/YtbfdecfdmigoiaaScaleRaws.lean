/-
  What is proved here: the law ScaleRaws returns true for all it is given. Conditions: none.
-/
import Derived.Test.YtbfdecfdmigoiaaScaKit
import Derived.Test.YtbfdecfdmigoiaaKitWords
import Derived.Deep.DeepCutAuto
import Derived.Deep.RegionHeld3
namespace Go.Proofs.Ytbfdecfdmigoiaa
namespace ScaleRaws
open Go.ChangeShapes Go.WideShapes Go.ChangeAt Go.RowKit Go.Deep

theorem raw_to (s : Sca) (A : Option Addr) (n cap : Nat) (L : List Int) (v m : Int) (w : World) (hn : L.length = n) (hA : IntsAt .u16 w A L) (hL : ∀ x ∈ L, U16 x) (h : rawTo s L = (v, m)) :
    Calls Try.prog 13 #[.agg #[.bool s.wide, .bool s.signed, .bool s.swap, .int .i64 s.mul, .int .i64 s.div, .int .i64 s.add], .slice A n cap] w fun e w' => e = .returned (.tuple #[.int .i64 v, .int .i64 m]) ∧ Below w.heap.size w w' := by
  subst hn
  refine (raw_any s A cap L w hA hL).mono ?_
  rintro e w' ⟨rfl, hb⟩
  rw [h]
  exact ⟨rfl, hb⟩
theorem rraw_to (s : Sca) (A : Option Addr) (n cap : Nat) (L : List Int) (v m : Int) (w : World) (hn : L.length = n) (hA : IntsAt .u16 w A L) (hL : ∀ x ∈ L, U16 x) (h : rawTo s L = (v, m)) :
    Calls Try.prog 14 #[.agg #[.bool s.wide, .bool s.signed, .bool s.swap, .int .i64 s.mul, .int .i64 s.div, .int .i64 s.add], .slice A n cap] w fun e w' => e = .returned (.tuple #[.int .i64 v, .int .i64 m]) ∧ Below w.heap.size w w' := by
  subst hn
  refine (rraw_any s A cap L w hA hL).mono ?_
  rintro e w' ⟨rfl, hb⟩
  rw [h]
  exact ⟨rfl, hb⟩
theorem kept_to (g n ca : Nat) (B : Option Addr) (cb : Nat) (L : List Int) (w : World) (hn : L.length = n) (hca : ca = n + 5) (hblk : IRow .u16 41 w g ca (Words.lentL L)) (hB : IntsAt .u16 w B L) (hlen : n ≤ 65536) :
    Calls Try.prog 17 #[.slice (some ⟨g, 0, none⟩) n ca, .slice B n cb] w fun e w' => e = .returned (.bool true) ∧ Below w.heap.size w w' := by
  subst hn hca
  exact Words.kept_any g _ B cb L w hblk hB (by omega) rfl
theorem lent_to (A : Option Addr) (n cap : Nat) (L : List Int) (w : World) (hn : L.length = n) (hA : IntsAt .u16 w A L) (hlen : n ≤ 65536) :
    Calls Try.prog 12 #[.slice A n cap] w fun e w' => ∃ g, e = .returned (.slice (some ⟨g, 0, none⟩) n (n + 5)) ∧ IRow .u16 41 w' g (n + 5) (Words.lentL L) ∧ Below w.heap.size w w' := by
  subst hn
  refine (Words.lent_any A cap L w hA (by omega)).mono ?_
  rintro e w' ⟨g, rfl, _, h, hb⟩
  exact ⟨g, rfl, h, hb⟩

set_option maxRecDepth 100000 in
set_option maxHeartbeats 4000000 in
theorem walk (s : Sca) (A : Option Addr) (cap : Nat) (L : List Int) (w : World) (hA : IntsAt .u16 w A L) (hL : ∀ x ∈ L, U16 x) :
    Calls Try.prog 3 #[.agg s.cells, .slice A L.length cap] w fun e w' => e = .returned (.bool true) ∧ Below w.heap.size w w' := by
  have HCL := Lib.hid (show s.cells = #[.bool s.wide, .bool s.signed, .bool s.swap, .int .i64 s.mul, .int .i64 s.div, .int .i64 s.add] from rfl)
  rw [HCL.out]
  have HB := Lib.hid (show CB w w.heap.size s (w.alloc (.cells #[.bool s.wide, .bool s.signed, .bool s.swap, .int .i64 s.mul, .int .i64 s.div, .int .i64 s.add] 23)) from ⟨Blk.new _ _ _, by (repeat (first | (with_reducible assumption) | (with_reducible exact Below.refl _ _) | ((with_reducible refine Below.setCell ?_ ?_ _); rotate_left; · (first | omega | (simp; done) | (simp; omega) | (simp at *; omega))) | ((with_reducible refine Below.alloc ?_ ?_ _); rotate_left; · (first | omega | (simp; done) | (simp; omega) | (simp at *; omega))) | (with_reducible refine Below.drew ?_) | (with_reducible refine below_drewN ?_ _) | ((refine Below.trans ?_ (Below.mono (by with_reducible assumption) ?_)); rotate_left; · (first | omega | (simp; done) | (simp; omega) | (simp at *; omega)))))⟩)
  have HA := Lib.hid hA
  have HLL := Lib.hid hL
  obtain ⟨n, hn⟩ : ∃ n, n = L.length := ⟨_, rfl⟩
  have HN := Lib.hid hn.symm
  rw [← hn]
  clear hA hL hn
  by_cases hbig : 65536 < n
  · have hb : (65536 : Int) < (n : Int) := by omega
    go_enter Try.func3, Try.ntmps3
    go_wp2_with fail
    refine (works_any _).mono ?_
    rintro e w1 ⟨rfl, hb1⟩
    go_wp2
    go_ret
    exact ⟨rfl, by (repeat (first | (with_reducible assumption) | (with_reducible exact Below.refl _ _) | ((with_reducible refine Below.setCell ?_ ?_ _); rotate_left; · (first | omega | (simp; done) | (simp; omega) | (simp at *; omega))) | ((with_reducible refine Below.alloc ?_ ?_ _); rotate_left; · (first | omega | (simp; done) | (simp; omega) | (simp at *; omega))) | (with_reducible refine Below.drew ?_) | (with_reducible refine below_drewN ?_ _) | ((refine Below.trans ?_ (Below.mono (by with_reducible assumption) ?_)); rotate_left; · (first | omega | (simp; done) | (simp; omega) | (simp at *; omega)))))⟩
  have hbi : ¬ (65536 : Int) < (n : Int) := by omega
  obtain ⟨⟨v, m⟩, hv⟩ : ∃ p, p = rawTo s L := ⟨_, rfl⟩
  have HV := Lib.hid hv.symm
  clear hv
  go_enter Try.func3, Try.ntmps3
  obtain ⟨c0, c1, c2, c3, c4, c5, hl⟩ := HB.out.all
  go_wp2_with fail
  refine (lent_to A n cap L _ HN.out (HA.out.alloc _) (by omega)).mono ?_
  rintro e w1 ⟨g, rfl, hx, hb1⟩
  have HB1 := Lib.hid (HB.out.below hb1)
  have HX := Lib.hid hx
  clear c0 c1 c2 c3 c4 c5 hl HB hb1 hx
  obtain ⟨c0, c1, c2, c3, c4, c5, hl⟩ := HB1.out.all
  go_wp2_with fail
  refine (raw_to s _ n _ L v m _ HN.out (Words.lent_begin HX.out) HLL.out HV.out).mono ?_
  rintro e w2 ⟨rfl, hb2⟩
  have HB2 := Lib.hid (HB1.out.below hb2)
  have HX2 := Lib.hid (HX.out.below hb2 HX.out.lt)
  clear c0 c1 c2 c3 c4 c5 hl HB1 hb2 HX
  obtain ⟨c0, c1, c2, c3, c4, c5, hl⟩ := HB2.out.all
  go_wp2_with fail
  refine (rraw_to s _ n _ L v m _ HN.out (HA.out.below HB2.out.2 (Nat.le_refl _)) HLL.out HV.out).mono ?_
  rintro e w3 ⟨rfl, hb3⟩
  have HB3 := Lib.hid (HB2.out.below hb3)
  have HX3 := Lib.hid (HX2.out.below hb3 HX2.out.lt)
  clear c0 c1 c2 c3 c4 c5 hl HB2 hb3 HX2
  obtain ⟨wx, rfl⟩ : ∃ wq : World, wq = w3 := ⟨_, rfl⟩
  obtain ⟨c0, c1, c2, c3, c4, c5, hl⟩ := HB3.out.all
  have HA3 := Lib.hid (HA.out.below HB3.out.2 (Nat.le_refl _))
  have HS3 := Lib.hid HB3.out.2
  go_upto_region 6 with fail
  go_cut [4] (fun s4 wy => s4 = .bool true ∧ Below wx.heap.size wx wy)
  case first =>
    go_region_held3 (fun w' => w'.cell? ⟨w.heap.size, 0, none⟩ = some (.bool s.wide) ∧ w'.cell? ⟨w.heap.size, 1, none⟩ = some (.bool s.signed) ∧ w'.cell? ⟨w.heap.size, 2, none⟩ = some (.bool s.swap) ∧ w'.cell? ⟨w.heap.size, 3, none⟩ = some (.int .i64 s.mul) ∧ w'.cell? ⟨w.heap.size, 4, none⟩ = some (.int .i64 s.div) ∧ w'.cell? ⟨w.heap.size, 5, none⟩ = some (.int .i64 s.add) ∧ Below wx.heap.size wx w')
      (first
        | exact ⟨c0, c1, c2, c3, c4, c5, (Below.refl _ _).drew⟩
        | (go_split_ands; refine ⟨(hb.cell (p := ⟨w.heap.size, 0, none⟩) (Nat.lt_of_lt_of_le hl (Below.size (by assumption)))).trans (by assumption), (hb.cell (p := ⟨w.heap.size, 1, none⟩) (Nat.lt_of_lt_of_le hl (Below.size (by assumption)))).trans (by assumption), (hb.cell (p := ⟨w.heap.size, 2, none⟩) (Nat.lt_of_lt_of_le hl (Below.size (by assumption)))).trans (by assumption), (hb.cell (p := ⟨w.heap.size, 3, none⟩) (Nat.lt_of_lt_of_le hl (Below.size (by assumption)))).trans (by assumption), (hb.cell (p := ⟨w.heap.size, 4, none⟩) (Nat.lt_of_lt_of_le hl (Below.size (by assumption)))).trans (by assumption), (hb.cell (p := ⟨w.heap.size, 5, none⟩) (Nat.lt_of_lt_of_le hl (Below.size (by assumption)))).trans (by assumption), Below.trans (by assumption) (hb.mono (Below.size (by assumption)))⟩))
      (first
        | (go_at_call 15; (try go_split_ands); (with_reducible refine (check_to s _).mono ?_); rintro e w' ⟨rfl, hb⟩; have hk : Below wx.heap.size wx w' := (by first | exact hk.trans (hb.mono hk.size) | exact (Below.refl _ _).drew.trans hb))
        | (go_at_call 16; (try go_split_ands); (with_reducible refine (rcheck_to s _).mono ?_); rintro e w' ⟨rfl, hb⟩; have hk : Below wx.heap.size wx w' := (by first | exact hk.trans (hb.mono hk.size) | exact (Below.refl _ _).drew.trans hb))
        | (go_at_call 17; (try go_split_ands); (with_reducible refine (kept_to g n (n + 5) A cap L _ HN.out rfl (HX3.out.below hk HX3.out.lt) (HA3.out.below hk (Nat.le_refl _)) (by omega)).mono ?_); rintro e w' ⟨rfl, hb⟩; have hk : Below wx.heap.size wx w' := (by first | exact hk.trans (hb.mono hk.size) | exact (Below.refl _ _).drew.trans hb))
        | (go_at_call 11; (try go_split_ands); (with_reducible refine (works_any _).mono ?_); rintro e w' ⟨rfl, hb⟩; have hk : Below wx.heap.size wx w' := (by first | exact hk.trans (hb.mono hk.size) | exact (Below.refl _ _).drew.trans hb)))
    go_wp2_with fail
    go_meet
    go_split_ands
    exact ⟨rfl, by assumption⟩
  case rest =>
    obtain ⟨rfl, hby⟩ := hcut
    have HW := Lib.hid (HS3.out.trans (hby.mono HS3.out.size))
    clear hby c0 c1 c2 c3 c4 c5 hl
    go_wp2_with fail
    go_ret
    exact ⟨rfl, HW.out⟩

theorem own : ownKnob Try.prog.godebug = none := by kernel_rfl

set_option maxRecDepth 100000 in
theorem lifted (os : Os) (started : os.Started) (H : Type) (enc : TypeId × Value → H) :
    ReturnsInHanded {} Try.checked os 3 .any (Rows.scaleRawsSpec.pre6 enc Try.prog Try.f3 Rows.scaleRawsRow.domain false) (Rows.scaleRawsSpec.post enc Try.prog Try.f3 false true false false) := by
  refine law_lifted (C := Try.checked) (tb := 4) own started (by kernel_rfl) Try.func3
    (ChangeSpec.witness6 (enc := enc) (C := Try.checked) false ⟨#[], #[.agg #[.bool false, .bool false, .bool false, .int .i64 0, .int .i64 0, .int .i64 0], .slice none 0 0], []⟩ 8 (by kernel_rfl) (by kernel_rfl) (by kernel_rfl) (by kernel_rfl))
    rfl (by kernel_rfl) (by kernel_rfl) (by kernel_rfl) Try.underlying4 (fun ds h => ?_) ?_
  · rw [show Try.f3.params = #[23, 24] from Try.params3] at h
    match ds, h with
    | [_, _], _ => rfl
  · intro W base args ds before hval hA hlt hsz
    rw [show Try.f3.params = #[23, 24] from Try.params3] at hA hval hsz
    obtain ⟨v0, vs0, d0, ds0, p0, q0, hargs, rfl, rfl, h0, r0⟩ := trodAll_cons hA
    obtain ⟨v1, vs1, d1, ds1, p1, q1, rfl, rfl, rfl, h1, r1⟩ := trodAll_cons r0
    obtain ⟨rfl, rfl, rfl⟩ := trodAll_nil r1
    obtain rfl : args = #[v0, v1] := by cases args; simp_all
    obtain ⟨s, rfl, _, _, _⟩ := open_sca (hval 0 _ v0 rfl rfl) h0
    obtain ⟨A, cap, L, rfl, _, _, hA, hL⟩ := open_ints_at (k := .u16) (n := 2) (j := 1) Try.underlying24 Try.underlying41 (by kernel_rfl) (by kernel_rfl) (hval 1 _ v1 rfl rfl) h1 hsz rfl rfl
    exact walk s A cap L W hA (fun x hx => by have := hL x hx; simp [Lit.wf, IntKind.min, IntKind.max, IntKind.signed, IntKind.bits] at this; exact ⟨by omega, by omega⟩)

theorem proved : Rows.ScaleRawsSaid :=
  OpenClaim.holds_of_wide 3 Try.f3 rfl rfl rfl rfl rfl rfl rfl ⟨rfl, rfl, rfl, rfl, rfl⟩ rfl rfl rfl rfl rfl (by kernel_rfl) Try.func3 (by kernel_rfl)
    (of_decide_eq_true (by kernel_rfl)) (by unfold Func.isWrapper; rw [if_neg (of_decide_eq_false (by kernel_rfl))]; exact ⟨rfl, rfl⟩)
    (fun os started H enc _ => lifted os started H enc)
#print axioms proved
end ScaleRaws
end Go.Proofs.Ytbfdecfdmigoiaa
