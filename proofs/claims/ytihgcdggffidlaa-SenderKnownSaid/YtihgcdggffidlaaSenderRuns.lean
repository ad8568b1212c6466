/-
  What is proved here: the law SenderRuns returns true for every sender and all calls. Conditions: none.
-/
import Derived.Test.YtihgcdggffidlaaSndKit
import Derived.Deep.RegionHeld3
import Derived.Deep.CutBlock
namespace Go.Proofs.Ytihgcdggffidlaa
namespace SenderRuns
open Go.ChangeShapes Go.WideShapes Go.ChangeAt Go.RowKit Go.Deep

theorem only_cell {a w : World} {row : Option Nat} (h : a.grownBy w row) {b : Nat} (hb : b < a.heap.size) (hne : some b ≠ row) (o : Nat) : w.cell? ⟨b, o, none⟩ = a.cell? ⟨b, o, none⟩ :=
  World.cell?_of_block (a := ⟨b, o, none⟩) (h.block b hb hne)

/-- both senders. -/
def Both (w : World) (g g' : Nat) (s s' : Snd) (wr : World) : Prop := SB 47 wr g s ∧ SB 40 wr g' s' ∧ Below w.heap.size w wr
theorem Both.below {w wr w' : World} {g g' : Nat} {s s' : Snd} (h : Both w g g' s s' wr) (hb : Below wr.heap.size wr w') : Both w g g' s s' w' := ⟨h.1.below hb, h.2.1.below hb, h.2.2.trans (hb.mono h.2.2.size)⟩
theorem Both.grown {w wr w' : World} {g g' : Nat} {s s' : Snd} {row : Option Nat} (h : Both w g g' s s' wr) (hg : wr.grownBy w' row) (h1 : some g ≠ row) (h2 : some g' ≠ row) (h3 : ∀ b, row = some b → w.heap.size ≤ b) : Both w g g' s s' w' :=
  ⟨Blk.grown h.1 hg h1, Blk.grown h.2.1 hg h2, h.2.2.trans (below_grown hg h3 h.2.2.size)⟩
theorem Both.one {w wr w' : World} {g g' : Nat} {s s' t : Snd} (h : Both w g g' s s' wr) (hS : SB 47 w' g t) (hg : wr.grownBy w' (some g)) (hne : g ≠ g') (hw : w.heap.size ≤ g) : Both w g g' t s' w' :=
  ⟨hS, Blk.grown h.2.1 hg (by simpa using fun e => hne e.symm), h.2.2.trans (below_grown hg (fun b e => by cases e; exact hw) h.2.2.size)⟩
theorem Both.two {w wr w' : World} {g g' : Nat} {s s' t : Snd} (h : Both w g g' s s' wr) (hS : SB 40 w' g' t) (hg : wr.grownBy w' (some g')) (hne : g ≠ g') (hw : w.heap.size ≤ g') : Both w g g' s t w' :=
  ⟨Blk.grown h.1 hg (by simpa using hne), hS, h.2.2.trans (below_grown hg (fun b e => by cases e; exact hw) h.2.2.size)⟩

theorem long_ (a b c d : Int) (A : Option Addr) (cap n : Nat) (w : World) (hbig : 500 < n) :
    Calls Try.prog 3 #[.int .i64 a, .int .i64 b, .int .i64 c, .int .i64 d, .slice A n cap] w fun e w' => e = .returned (.bool true) ∧ Below w.heap.size w w' := by
  have hb : (500 : Int) < (n : Int) := by omega
  go_enter Try.func3, Try.ntmps3
  go_wp2_with fail
  refine (works_any _).mono ?_
  rintro e w1 ⟨rfl, hb1⟩
  go_wp2
  go_ret
  exact ⟨rfl, hb1⟩
theorem bad_ (a b c d : Int) (A : Option Addr) (cap n : Nat) (w : World) (hbig : ¬ 500 < n) (h : ¬ sndOk a b c d) :
    Calls Try.prog 3 #[.int .i64 a, .int .i64 b, .int .i64 c, .int .i64 d, .slice A n cap] w fun e w' => e = .returned (.bool true) ∧ Below w.heap.size w w' := by
  have hb : ¬ (500 : Int) < (n : Int) := by omega
  go_enter Try.func3, Try.ntmps3
  go_wp2_with fail
  refine (new_no a b c d _ h).mono ?_
  rintro e w1 ⟨rfl, rfl⟩
  go_wp2_with fail
  refine (rnew_no a b c d _ h).mono ?_
  rintro e w1 ⟨rfl, rfl⟩
  go_wp2_with fail
  refine (works_any _).mono ?_
  rintro e w1 ⟨rfl, hb1⟩
  go_wp2
  go_ret
  exact ⟨rfl, hb1⟩

set_option maxRecDepth 100000 in
set_option maxHeartbeats 4000000 in
theorem walk (a b c d : Int) (A : Option Addr) (cap : Nat) (L : List Op) (w : World) (hA : OpsAt w A L) (hL : ∀ i, i < L.length → (I64 (L.getD i o0).now ∧ I64 (L.getD i o0).next)) :
    Calls Try.prog 3 #[.int .i64 a, .int .i64 b, .int .i64 c, .int .i64 d, .slice A L.length cap] w fun e w' => e = .returned (.bool true) ∧ Below w.heap.size w w' := by
  by_cases hbig : 500 < L.length
  · exact long_ a b c d A cap L.length w hbig
  by_cases hnew : sndOk a b c d
  rotate_left
  · exact bad_ a b c d A cap L.length w hbig hnew
  have hbi : ¬ (500 : Int) < (L.length : Int) := by omega
  have HA := Lib.hid hA
  have HF := Lib.hid hL
  have HNW := Lib.hid hnew
  clear hA hL hnew
  go_enter Try.func3, Try.ntmps3
  go_wp2_with fail
  refine (new_yes a b c d _ HNW.out).mono ?_
  rintro e w1 ⟨rfl, rfl⟩
  go_wp2_with fail
  refine (rnew_yes a b c d _ HNW.out).mono ?_
  rintro e w1 ⟨rfl, rfl⟩
  have h0 : Both w w.heap.size (w.heap.size + 1) (sndNew a b c d) (sndNew a b c d) ((w.alloc (.cells #[.int .i64 a, .int .i64 b, .int .i64 c, .int .i64 d, .int .i64 d, .int .i64 d, .int .i64 0] 47)).alloc (.cells #[.int .i64 a, .int .i64 b, .int .i64 c, .int .i64 d, .int .i64 d, .int .i64 d, .int .i64 0] 40)) := by
    refine ⟨(Blk.new _ _ _).alloc _, ?_, by (repeat (first | (with_reducible assumption) | (with_reducible exact Below.refl _ _) | ((with_reducible refine Below.setCell ?_ ?_ _); rotate_left; · (first | omega | (simp; done) | (simp; omega) | (simp at *; omega))) | ((with_reducible refine Below.alloc ?_ ?_ _); rotate_left; · (first | omega | (simp; done) | (simp; omega) | (simp at *; omega))) | (with_reducible refine Below.drew ?_) | (with_reducible refine below_drewN ?_ _) | ((refine Below.trans ?_ (Below.mono (by with_reducible assumption) ?_)); rotate_left; · (first | omega | (simp; done) | (simp; omega) | (simp at *; omega)))))⟩
    have := Blk.new (w.alloc (.cells #[.int .i64 a, .int .i64 b, .int .i64 c, .int .i64 d, .int .i64 d, .int .i64 d, .int .i64 0] 47)) 40 #[.int .i64 a, .int .i64 b, .int .i64 c, .int .i64 d, .int .i64 d, .int .i64 d, .int .i64 0]
    simp only [World.size_alloc] at this
    exact this
  have H0 := Lib.hid h0
  clear h0
  obtain ⟨g, hg⟩ : ∃ g, g = w.heap.size := ⟨_, rfl⟩
  obtain ⟨g', hg'⟩ : ∃ g', g' = w.heap.size + 1 := ⟨_, rfl⟩
  go_wp2_with fail
  go_loopg [15] L.length (fun gm i wr => ∃ (k : Nat) (s : Snd), k ≤ L.length ∧ gm = L.length - k ∧ i = .int .i64 k ∧ s.Ok ∧ Both w w.heap.size (w.heap.size + 1) s s wr)
  case atStart => exact ⟨0, _, Nat.zero_le _, rfl, rfl, new_ok HNW.out, H0.out⟩
  case round =>
    clear H0 hg hg' g g'
    obtain ⟨k, s, hk, rfl, rfl, hok, hB⟩ := hrel
    obtain ⟨wz, rfl⟩ : ∃ wz : World, wz = wr := ⟨_, rfl⟩
    have HB := Lib.hid hB
    have HOK := Lib.hid hok
    have hwz := hB.2.2.size
    have hl1 := Blk.lt hB.1
    have hl2 := Blk.lt hB.2.1
    clear hB hok
    by_cases hlt : k < L.length
    · obtain ⟨bb, off, rfl, hb, hS⟩ := HA.out (by omega)
      obtain ⟨x, hx⟩ : ∃ x, x = L.getD k o0 := ⟨_, rfl⟩
      obtain ⟨c0, c1, c2, c3⟩ := hS k hlt
      have hfx := HF.out k hlt
      rw [← hx] at c0 c1 c2 c3 hfx
      have x0 := (HB.out.2.2.cell (p := ⟨bb, off + k * 4, none⟩) hb).trans c0
      have x1 := (HB.out.2.2.cell (p := ⟨bb, off + k * 4 + 1, none⟩) hb).trans c1
      have x2 := (HB.out.2.2.cell (p := ⟨bb, off + k * 4 + 2, none⟩) hb).trans c2
      have x3 := (HB.out.2.2.cell (p := ⟨bb, off + k * 4 + 3, none⟩) hb).trans c3
      have HFX := Lib.hid hfx
      have hki : (k : Int) < (L.length : Int) := by omega
      have hk0 : (0 : Int) ≤ (k : Int) := by omega
      clear hx c0 c1 c2 c3 hS hfx
      go_upto_block 2 with fail
      go_cut [17] (fun s17 wx => ∃ s' : Snd, s'.Ok ∧ Both w w.heap.size (w.heap.size + 1) s' s' wx)
      case first =>
        have HBA := Lib.hid (HB.out.below ((Below.refl wz.heap.size wz).alloc (Nat.le_refl _) (.cells #[.int .i64 x.kind, .int .i64 x.now, .int .i64 x.next, .int .i64 x.ep] 32)))
        have BX := Blk.new wz 32 #[.int .i64 x.kind, .int .i64 x.now, .int .i64 x.next, .int .i64 x.ep]
        by_cases hk0' : x.kind = 0
        · have n0 : (x.kind == 0) = true := by rw [beq_iff_eq]; exact hk0'
          clear hk0' x0 x1 x2 x3
          obtain ⟨wa, hwa⟩ : ∃ wa : World, wa = wz.alloc (.cells #[.int .i64 x.kind, .int .i64 x.now, .int .i64 x.next, .int .i64 x.ep] 32) := ⟨_, rfl⟩
          rw [← hwa] at BX HBA ⊢
          have hsa : wa.heap.size = wz.heap.size + 1 := by rw [hwa]; simp
          clear hwa
          have c0 := BX.cell 0
          have c1 := BX.cell 1
          have c2 := BX.cell 2
          simp at c0 c1 c2
          have HBX := Lib.hid BX
          have HSA := Lib.hid hsa
          clear BX hsa
          go_wp2_with fail
          refine (send_any w.heap.size s x.now x.next _ HBA.out.1 HOK.out HFX.out.2).mono ?_
          rintro e w1 hsb
          obtain ⟨A1, ca1, rfl, hA1, hR1, hge1, hS1, hG1⟩ := send_to hsb
          have HB1 := Lib.hid (HBA.out.one hS1 hG1 (by omega) (Nat.le_refl _))
          have c1' := (only_cell hG1 (b := wz.heap.size) (by have := HSA.out; omega) (by simp; omega) 1).trans c1
          have c2' := (only_cell hG1 (b := wz.heap.size) (by have := HSA.out; omega) (by simp; omega) 2).trans c2
          have hz1 := hG1.size
          have HA1 := Lib.hid hA1
          have HR1 := Lib.hid hR1
          have HGE := Lib.hid hge1
          have hml := many_le s HOK.out x.now x.next
          have hww := HOK.out.2.1
          clear c0 c1 c2 hA1 hR1 hge1 hS1 hG1 hsb
          go_wp2_with fail
          refine (rsend_any (w.heap.size + 1) s x.now x.next _ HB1.out.2.1 HOK.out).mono ?_
          rintro e w2 hsb
          obtain ⟨A2, ca2, rfl, hA2, hR2, hge2, hS2, hG2⟩ := send_to hsb
          have hne1 : ∀ b, (Value.slice A1 (s.many x.now x.next) ca1).ownBlock = some b → b ≠ w.heap.size + 1 := fun b e => by have := HGE.out b e; have := HSA.out; omega
          have HB2 := Lib.hid (HB1.out.two hS2 hG2 (by omega) (by omega))
          have HA1' := Lib.hid (IntsAt.grown HA1.out hG2 (fun b o e => by have := hne1 b (by rw [e]; rfl); simpa using this))
          have HR1' := Lib.hid (HR1.out.grown hG2 (fun b e => by have := hne1 b e; simpa using this))
          have HA2 := Lib.hid hA2
          have hz2 := hG2.size
          clear c1' c2' hA2 hR2 hge2 hS2 hG2 hsb hne1
          go_wp2_with fail
          refine (same_at A1 A2 _ _ ca1 ca2 (s.list x.now x.next) (s.list x.now x.next) _ (upList_len _ _) (upList_len _ _) HA1'.out HA2.out (by omega) rfl).mono ?_
          rintro e w3 ⟨rfl, hb3⟩
          have HB3 := Lib.hid (HB2.out.below hb3)
          have HR3 := Lib.hid (HR1'.out.below hb3)
          clear hb3
          go_wp2_with fail
          refine (Ints.spoil_any HR3.out).mono ?_
          rintro e w4 ⟨rfl, _, hG4⟩
          have HB4 := Lib.hid (HB3.out.grown hG4 (fun e => by have := HGE.out _ e.symm; have := HSA.out; omega) (fun e => by have := HGE.out _ e.symm; have := HSA.out; omega) (fun b e => by have := HGE.out _ e; have := HSA.out; omega))
          clear hG4
          go_wp2_with fail
          go_meet
          exact ⟨_, (send_ok s HOK.out x.now x.next).1, HB4.out⟩
        · have n0 : (x.kind == 0) = false := by rw [beq_eq_false_iff_ne]; exact hk0'
          by_cases hk1' : x.kind = 1
          · have n1 : (x.kind == 1) = true := by rw [beq_iff_eq]; exact hk1'
            clear hk1' hk0' x0 x1 x2 x3
            obtain ⟨wa, hwa⟩ : ∃ wa : World, wa = wz.alloc (.cells #[.int .i64 x.kind, .int .i64 x.now, .int .i64 x.next, .int .i64 x.ep] 32) := ⟨_, rfl⟩
            rw [← hwa] at BX HBA ⊢
            have hsa : wa.heap.size = wz.heap.size + 1 := by rw [hwa]; simp
            clear hwa
            have c0 := BX.cell 0
            have c1 := BX.cell 1
            have c2 := BX.cell 2
            have c3 := BX.cell 3
            simp at c0 c1 c2 c3
            have hlb : wz.heap.size < wa.heap.size := by omega
            clear BX
            go_wp2_with fail
            go_region_held3 (fun w' => w'.cell? ⟨wz.heap.size, 1, none⟩ = some (.int .i64 x.now) ∧ w'.cell? ⟨wz.heap.size, 2, none⟩ = some (.int .i64 x.next) ∧ w'.cell? ⟨wz.heap.size, 3, none⟩ = some (.int .i64 x.ep) ∧ wz.heap.size < w'.heap.size)
              (first
                | exact ⟨c1, c2, c3, hlb⟩
                | (go_split_ands
                   refine ⟨(only_cell hG (b := wz.heap.size) (by first | assumption | exact hlb) (by simp; omega) 1).trans (by assumption), (only_cell hG (b := wz.heap.size) (by first | assumption | exact hlb) (by simp; omega) 2).trans (by assumption), (only_cell hG (b := wz.heap.size) (by first | assumption | exact hlb) (by simp; omega) 3).trans (by assumption), Nat.lt_of_lt_of_le (by first | assumption | exact hlb) hG.size⟩))
              (first
                | (go_at_call 14; refine (ack_any w.heap.size s _ _ _ _ (show SB _ wa.drew _ _ from HBA.out.1)).mono ?_; rintro e w1 ⟨rfl, hS1, hG⟩; have HB1 := Lib.hid ((show Both w w.heap.size (w.heap.size + 1) s s wa.drew from HBA.out.below (Below.refl _ _).drew).one hS1 hG (by omega) (Nat.le_refl _)))
                | (go_at_call 15; refine (rack_any (w.heap.size + 1) s _ _ _ _ HB1.out.2.1).mono ?_; rintro e w2 ⟨rfl, hS2, hG⟩; have HB2 := Lib.hid (HB1.out.two hS2 hG (by omega) (by omega))))
            go_wp2_with fail
            go_meet
            exact ⟨_, (ack_ok s HOK.out x.now x.ep x.next).1, HB2.out⟩
          · have n1 : (x.kind == 1) = false := by rw [beq_eq_false_iff_ne]; exact hk1'
            go_wp2_with fail
            go_meet
            exact ⟨_, HOK.out, HBA.out⟩
      case rest =>
        obtain ⟨s', hok', hB⟩ := hcut
        obtain ⟨wy, rfl⟩ : ∃ wy : World, wy = wc := ⟨_, rfl⟩
        have HB' := Lib.hid hB
        have HOK' := Lib.hid hok'
        obtain ⟨⟨d0, d1, d2, d3, d4, d5, d6⟩, _⟩ := hB.2.1.all
        clear hB hok' x0 x1 x2 x3
        go_wp2_with fail
        go_quiet ((first | (go_at_call 16; exact Calls.quiet_of_same (base_any _ _ _ HB'.out.1)) | (go_at_call 17; exact Calls.quiet_of_same (epoch_any _ _ _ HB'.out.1))))
        go_wp2_with fail
        go_roundg (L.length - (k + 1))
        case measure => omega
        case rel => exact ⟨k + 1, s', by omega, rfl, by go_num, HOK'.out, HB'.out.below (below_drewN (Below.refl _ _) _)⟩
    · obtain rfl : k = L.length := by omega
      have hki : ¬ (L.length : Int) < (L.length : Int) := by omega
      go_wp2_with fail
      refine (works_any _).mono ?_
      rintro e w1 ⟨rfl, hb1⟩
      go_wp2
      go_ret
      exact ⟨rfl, (HB.out.below hb1).2.2⟩

theorem own : ownKnob Try.prog.godebug = none := by kernel_rfl

set_option maxRecDepth 100000 in
theorem lifted (os : Os) (started : os.Started) (H : Type) (enc : TypeId × Value → H) :
    ReturnsInHanded {} Try.checked os 3 .any (Rows.senderRunsSpec.pre6 enc Try.prog Try.f3 Rows.senderRunsRow.domain false) (Rows.senderRunsSpec.post enc Try.prog Try.f3 false true false false) := by
  refine law_lifted (C := Try.checked) (tb := 4) own started (by kernel_rfl) Try.func3
    (ChangeSpec.witness6 (enc := enc) (C := Try.checked) false ⟨#[], #[.int .i64 0, .int .i64 0, .int .i64 0, .int .i64 0, .slice none 0 0], []⟩ 8 (by kernel_rfl) (by kernel_rfl) (by kernel_rfl) (by kernel_rfl))
    rfl (by kernel_rfl) (by kernel_rfl) (by kernel_rfl) Try.underlying4 (fun ds h => ?_) ?_
  · rw [show Try.f3.params = #[3, 3, 3, 3, 22] from Try.params3] at h
    match ds, h with
    | [_, _, _, _, _], _ => rfl
  · intro W base args ds before hval hA hlt hsz
    rw [show Try.f3.params = #[3, 3, 3, 3, 22] from Try.params3] at hA hval hsz
    obtain ⟨v0, vs0, d0, ds0, p0, q0, hargs, rfl, rfl, h0, r0⟩ := trodAll_cons hA
    obtain ⟨v1, vs1, d1, ds1, p1, q1, rfl, rfl, rfl, h1, r1⟩ := trodAll_cons r0
    obtain ⟨v2, vs2, d2, ds2, p2, q2, rfl, rfl, rfl, h2, r2⟩ := trodAll_cons r1
    obtain ⟨v3, vs3, d3, ds3, p3, q3, rfl, rfl, rfl, h3, r3⟩ := trodAll_cons r2
    obtain ⟨v4, vs4, d4, ds4, p4, q4, rfl, rfl, rfl, h4, r4⟩ := trodAll_cons r3
    obtain ⟨rfl, rfl, rfl⟩ := trodAll_nil r4
    obtain rfl : args = #[v0, v1, v2, v3, v4] := by cases args; simp_all
    obtain ⟨a, rfl, _, _, _⟩ := open_int Try.underlying3 (hval 0 3 v0 rfl rfl) h0
    obtain ⟨b, rfl, _, _, _⟩ := open_int Try.underlying3 (hval 1 3 v1 rfl rfl) h1
    obtain ⟨c, rfl, _, _, _⟩ := open_int Try.underlying3 (hval 2 3 v2 rfl rfl) h2
    obtain ⟨d, rfl, _, _, _⟩ := open_int Try.underlying3 (hval 3 3 v3 rfl rfl) h3
    obtain ⟨A, cap, L, rfl, hcap, hc16, hS, hF⟩ := open_ops (hval 4 _ v4 rfl rfl) h4 hsz (j := 4) rfl rfl
    exact walk a b c d A cap L W hS hF

theorem proved : Rows.SenderRunsSaid :=
  OpenClaim.holds_of_wide 3 Try.f3 rfl rfl rfl rfl rfl rfl rfl ⟨rfl, rfl, rfl, rfl, rfl⟩ rfl rfl rfl rfl rfl (by kernel_rfl) Try.func3 (by kernel_rfl)
    (of_decide_eq_true (by kernel_rfl)) (by unfold Func.isWrapper; rw [if_neg (of_decide_eq_false (by kernel_rfl))]; exact ⟨rfl, rfl⟩)
    (fun os started H enc _ => lifted os started H enc)
#print axioms proved
end SenderRuns
end Go.Proofs.Ytihgcdggffidlaa
