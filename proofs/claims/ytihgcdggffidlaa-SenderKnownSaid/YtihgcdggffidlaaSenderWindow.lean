/-
  What is proved here: the law SenderWindow returns true for every sender and all calls. Conditions: none.
-/
import Derived.Test.YtihgcdggffidlaaSndKit
import Derived.Deep.RegionHeld3
import Derived.Deep.CutBlock
namespace Go.Proofs.Ytihgcdggffidlaa
namespace SenderWindow
open Go.ChangeShapes Go.WideShapes Go.ChangeAt Go.RowKit Go.Deep

theorem only_cell {a w : World} {row : Option Nat} (h : a.grownBy w row) {b : Nat} (hb : b < a.heap.size) (hne : some b ≠ row) (o : Nat) : w.cell? ⟨b, o, none⟩ = a.cell? ⟨b, o, none⟩ :=
  World.cell?_of_block (a := ⟨b, o, none⟩) (h.block b hb hne)
/-- the sender in its world. -/
def One (w : World) (s : Snd) (wr : World) : Prop := SB 47 wr w.heap.size s ∧ Below w.heap.size w wr
theorem One.below {w wr w' : World} {s : Snd} (h : One w s wr) (hb : Below wr.heap.size wr w') : One w s w' := ⟨h.1.below hb, h.2.trans (hb.mono h.2.size)⟩
theorem One.next {w wr w' : World} {s t : Snd} (h : One w s wr) (hS : SB 47 w' w.heap.size t) (hg : wr.grownBy w' (some w.heap.size)) : One w t w' :=
  ⟨hS, h.2.trans (below_grown hg (fun b e => by cases e; exact Nat.le_refl _) h.2.size)⟩

set_option maxRecDepth 100000 in
theorem bad_ (a b c d : Int) (A : Option Addr) (cap n : Nat) (w : World) (h : ¬ sndOk a b c d) :
    Calls Try.prog 4 #[.int .i64 a, .int .i64 b, .int .i64 c, .int .i64 d, .slice A n cap] w fun e w' => e = .returned (.bool true) ∧ Below w.heap.size w w' := by
  go_enter Try.func4, Try.ntmps4
  go_wp2_with fail
  refine (new_no a b c d _ h).mono ?_
  rintro e w1 ⟨rfl, rfl⟩
  go_wp2_with fail
  refine (works_any _).mono ?_
  rintro e w1 ⟨rfl, hb1⟩
  go_wp2
  go_ret
  exact ⟨rfl, hb1⟩
set_option maxRecDepth 100000 in
theorem long_ (a b c d : Int) (A : Option Addr) (cap n : Nat) (w : World) (hbig : 500 < n) (h : sndOk a b c d) :
    Calls Try.prog 4 #[.int .i64 a, .int .i64 b, .int .i64 c, .int .i64 d, .slice A n cap] w fun e w' => e = .returned (.bool true) ∧ Below w.heap.size w w' := by
  have hb : (500 : Int) < (n : Int) := by omega
  go_enter Try.func4, Try.ntmps4
  go_wp2_with fail
  refine (new_yes a b c d _ h).mono ?_
  rintro e w1 ⟨rfl, rfl⟩
  go_wp2_with fail
  refine (works_any _).mono ?_
  rintro e w1 ⟨rfl, hb1⟩
  go_wp2
  go_ret
  exact ⟨rfl, by (repeat (first | (with_reducible assumption) | (with_reducible exact Below.refl _ _) | ((with_reducible refine Below.setCell ?_ ?_ _); rotate_left; · (first | omega | (simp; done) | (simp; omega) | (simp at *; omega))) | ((with_reducible refine Below.alloc ?_ ?_ _); rotate_left; · (first | omega | (simp; done) | (simp; omega) | (simp at *; omega))) | (with_reducible refine Below.drew ?_) | (with_reducible refine below_drewN ?_ _) | ((refine Below.trans ?_ (Below.mono (by with_reducible assumption) ?_)); rotate_left; · (first | omega | (simp; done) | (simp; omega) | (simp at *; omega)))))⟩

/-- what the law's own numbers are, at each call's head. -/
def Seen (a c : Int) (s : Snd) (T : Int) : Prop := s.Ok ∧ s.win = a ∧ s.ep = c ∧ s.sent ≤ max T s.base ∧ 0 ≤ T ∧ T ≤ s.top
theorem many_ok {s : Snd} {now next : Int} (h : 0 < s.many now next) : sendOk now next := by
  unfold Snd.many at h
  by_cases hn : sendOk now next
  · exact hn
  · rw [if_neg hn] at h; omega
theorem seen_send {a c : Int} {s : Snd} {T T' : Int} (h : Seen a c s T) (now next : Int) (hT : (s.many now next = 0 ∧ T' = T) ∨ T' = max T (s.head now + s.many now next)) (h0 : s.many now next = 0 → T' = T) : Seen a c (s.send now next) T' := by
  obtain ⟨h1, h2, h3, h4, h5, h6⟩ := h
  obtain ⟨k1, k2, k3, k4, k5⟩ := send_ok s h1 now next
  rcases Nat.eq_zero_or_pos (s.many now next) with hz | hp
  · have e := h0 hz
    subst e
    have := send_none s h1 now next hz
    refine ⟨k1, by rw [k3, h2], by rw [k5, h3], by omega, h5, ?_⟩
    rw [send_top]; split <;> omega
  · have hn := many_ok hp
    obtain ⟨f1, f2, f3, f4, f5⟩ := send_facts s h1 now next hp
    have e : T' = max T (s.head now + s.many now next) := by
      rcases hT with ⟨z, _⟩ | e
      · omega
      · exact e
    obtain ⟨o1, o2, o3, o4, o5, o6, o7, o8, o9, o10, o11⟩ := h1
    refine ⟨k1, by rw [k3, h2], by rw [k5, h3], by omega, by omega, ?_⟩
    rw [send_top, if_pos hn]; omega
theorem seen_ack {a c : Int} {s : Snd} {T : Int} (h : Seen a c s T) (now ep next : Int) : Seen a c (s.ack now ep next) T := by
  obtain ⟨h1, h2, h3, h4, h5, h6⟩ := h
  obtain ⟨k1, k2, k3, k4⟩ := ack_ok s h1 now ep next
  refine ⟨k1, by rw [k2, h2], by rw [k4, h3], ?_, h5, ?_⟩
  · unfold Snd.ack
    by_cases ha : ackOk s now ep next
    · obtain ⟨_, _, _, a4, a5⟩ := id ha
      rw [if_pos ha]; dsimp only; omega
    · rw [if_neg ha]; omega
  · unfold Snd.ack
    by_cases ha : ackOk s now ep next
    · obtain ⟨_, _, _, a4, a5⟩ := id ha
      rw [if_pos ha]; dsimp only; omega
    · rw [if_neg ha]; omega

theorem base_to (g : Nat) (s : Snd) (b : Int) (w : World) (h : SB 47 w g s) (hb : s.base = b) :
    Calls Try.prog 16 #[.pointer (some ⟨g, 0, none⟩)] w fun e w' => e = .returned (.int .i64 b) ∧ w' = w := by
  subst hb
  exact base_any g s w h

set_option maxRecDepth 100000 in
set_option maxHeartbeats 20000000 in
theorem walk (a b c d : Int) (A : Option Addr) (cap : Nat) (L : List Op) (w : World) (hA : OpsAt w A L) (hL : ∀ i, i < L.length → (I64 (L.getD i o0).now ∧ I64 (L.getD i o0).next)) :
    Calls Try.prog 4 #[.int .i64 a, .int .i64 b, .int .i64 c, .int .i64 d, .slice A L.length cap] w fun e w' => e = .returned (.bool true) ∧ Below w.heap.size w w' := by
  by_cases hnew : sndOk a b c d
  rotate_left
  · exact bad_ a b c d A cap L.length w hnew
  by_cases hbig : 500 < L.length
  · exact long_ a b c d A cap L.length w hbig hnew
  have hbi : ¬ (500 : Int) < (L.length : Int) := by omega
  have HA := Lib.hid hA
  have HF := Lib.hid hL
  have HNW := Lib.hid hnew
  clear hA hL hnew
  go_enter Try.func4, Try.ntmps4
  go_wp2_with fail
  refine (new_yes a b c d _ HNW.out).mono ?_
  rintro e w1 ⟨rfl, rfl⟩
  have h0 : One w (sndNew a b c d) (w.alloc (.cells #[.int .i64 a, .int .i64 b, .int .i64 c, .int .i64 d, .int .i64 d, .int .i64 d, .int .i64 0] 47)) := ⟨Blk.new _ _ _, by (repeat (first | (with_reducible assumption) | (with_reducible exact Below.refl _ _) | ((with_reducible refine Below.setCell ?_ ?_ _); rotate_left; · (first | omega | (simp; done) | (simp; omega) | (simp at *; omega))) | ((with_reducible refine Below.alloc ?_ ?_ _); rotate_left; · (first | omega | (simp; done) | (simp; omega) | (simp at *; omega))) | (with_reducible refine Below.drew ?_) | (with_reducible refine below_drewN ?_ _) | ((refine Below.trans ?_ (Below.mono (by with_reducible assumption) ?_)); rotate_left; · (first | omega | (simp; done) | (simp; omega) | (simp at *; omega)))))⟩
  have H0 := Lib.hid h0
  clear h0
  go_wp2_with fail
  go_loopg [13, 14, 15] L.length (fun gm top most i wr => ∃ (k : Nat) (s : Snd) (T : Int), k ≤ L.length ∧ gm = L.length - k ∧ i = .int .i64 k ∧ top = .int .i64 T ∧ most = .int .i64 s.top ∧ Seen a c s T ∧ One w s wr)
  case atStart =>
    refine ⟨0, sndNew a b c d, d, Nat.zero_le _, rfl, rfl, rfl, rfl, ⟨new_ok HNW.out, rfl, rfl, ?_, ?_, ?_⟩, H0.out⟩
    · show d ≤ max d d; omega
    · have := HNW.out; unfold sndOk at this; omega
    · show d ≤ d; omega
  case round =>
    clear H0
    obtain ⟨k, s, T, hk, rfl, rfl, rfl, rfl, hsn, hB⟩ := hrel
    obtain ⟨wz, rfl⟩ : ∃ wz : World, wz = wr := ⟨_, rfl⟩
    have HB := Lib.hid hB
    have HSN := Lib.hid hsn
    have hwz := hB.2.size
    have hl1 := Blk.lt hB.1
    clear hB hsn
    by_cases hlt : k < L.length
    · obtain ⟨bb, off, rfl, hb, hS⟩ := HA.out (by omega)
      obtain ⟨x, hx⟩ : ∃ x, x = L.getD k o0 := ⟨_, rfl⟩
      obtain ⟨c0, c1, c2, c3⟩ := hS k hlt
      have hfx := HF.out k hlt
      rw [← hx] at c0 c1 c2 c3 hfx
      have x0 := (HB.out.2.cell (p := ⟨bb, off + k * 4, none⟩) hb).trans c0
      have x1 := (HB.out.2.cell (p := ⟨bb, off + k * 4 + 1, none⟩) hb).trans c1
      have x2 := (HB.out.2.cell (p := ⟨bb, off + k * 4 + 2, none⟩) hb).trans c2
      have x3 := (HB.out.2.cell (p := ⟨bb, off + k * 4 + 3, none⟩) hb).trans c3
      have HFX := Lib.hid hfx
      have hki : (k : Int) < (L.length : Int) := by omega
      have hk0 : (0 : Int) ≤ (k : Int) := by omega
      clear hx c0 c1 c2 c3 hS hfx
      go_wp2_with fail
      have HBA := Lib.hid (HB.out.below ((Below.refl wz.heap.size wz).alloc (Nat.le_refl _) (.cells #[.int .i64 x.kind, .int .i64 x.now, .int .i64 x.next, .int .i64 x.ep] 32)))
      have BX := Blk.new wz 32 #[.int .i64 x.kind, .int .i64 x.now, .int .i64 x.next, .int .i64 x.ep]
      obtain ⟨wa, hwa⟩ : ∃ wa : World, wa = wz.alloc (.cells #[.int .i64 x.kind, .int .i64 x.now, .int .i64 x.next, .int .i64 x.ep] 32) := ⟨_, rfl⟩
      rw [← hwa] at BX HBA ⊢
      have hsa : wa.heap.size = wz.heap.size + 1 := by rw [hwa]; simp
      have hlb : wz.heap.size < wa.heap.size := by omega
      clear hwa x0 x1 x2 x3
      have c0 := BX.cell 0
      have c1 := BX.cell 1
      have c2 := BX.cell 2
      have c3 := BX.cell 3
      simp at c0 c1 c2 c3
      have HSA := Lib.hid hsa
      clear BX hsa
      refine (base_any w.heap.size s _ HBA.out.1).mono ?_
      rintro e w1 ⟨rfl, hw1⟩
      subst hw1
      obtain ⟨wa, rfl⟩ : ∃ wz : World, wz = w1 := ⟨_, rfl⟩
      obtain ⟨bs, hbs⟩ : ∃ bs, bs = s.base := ⟨_, rfl⟩
      rw [← hbs]
      have HBS := Lib.hid hbs
      obtain ⟨tp, htp⟩ : ∃ tp, tp = s.top := ⟨_, rfl⟩
      rw [← htp]
      have HTP := Lib.hid htp
      clear hbs htp
      go_upto_region 11 with fail
      go_cut [76] (fun s76 wx => s76 = .bool (decide (x.kind ≠ 1 ∧ sendOk x.now x.next)) ∧ wa = wx)
      case first =>
        as_aux_lemma =>
          have hc : x.kind = 1 ∨ (x.kind ≠ 1 ∧ (x.now < 0 ∨ (0 ≤ x.now ∧ (1099511627776 < x.now ∨ (x.now ≤ 1099511627776 ∧ (1099511627776 < x.next ∨ x.next ≤ 1099511627776)))))) := by omega
          rcases hc with h1 | ⟨h1, h2 | ⟨h2, h3 | ⟨h3, h4 | h4⟩⟩⟩
          · have n1 : (x.kind != 1) = false := by rw [bne_eq_false_iff_eq]; exact h1
            have HD := Lib.hid (show decide (x.kind ≠ 1 ∧ sendOk x.now x.next) = false from decide_eq_false (fun h => h.1 h1))
            clear h1
            go_wp2_with fail
            go_meet
            exact ⟨by rw [HD.out], rfl⟩
          all_goals
            have n1 : (x.kind != 1) = true := by rw [bne_iff_ne]; exact h1
          · have HD := Lib.hid (show decide (x.kind ≠ 1 ∧ sendOk x.now x.next) = false from decide_eq_false (fun h => by have := h.2; unfold sendOk at this; omega))
            have h2' : decide (0 ≤ x.now) = false := decide_eq_false (by omega)
            clear h1
            go_wp2_with fail
            go_meet
            exact ⟨by rw [HD.out], rfl⟩
          · have HD := Lib.hid (show decide (x.kind ≠ 1 ∧ sendOk x.now x.next) = false from decide_eq_false (fun h => by have := h.2; unfold sendOk at this; omega))
            have h2' : decide (x.now ≤ 1099511627776) = false := decide_eq_false (by omega)
            clear h1
            go_wp2_with fail
            go_meet
            exact ⟨by rw [HD.out], rfl⟩
          · have HD := Lib.hid (show decide (x.kind ≠ 1 ∧ sendOk x.now x.next) = false from decide_eq_false (fun h => by have := h.2; unfold sendOk at this; omega))
            have h2' : decide (x.next ≤ 1099511627776) = false := decide_eq_false (by omega)
            clear h1
            go_wp2_with fail
            go_meet
            exact ⟨by rw [HD.out], rfl⟩
          · have HD := Lib.hid (show decide (x.kind ≠ 1 ∧ sendOk x.now x.next) = true from decide_eq_true ⟨h1, h2, h3, h4⟩)
            clear h1
            go_wp2_with fail
            go_meet
            exact ⟨by rw [HD.out], rfl⟩
      obtain ⟨rfl, rfl⟩ := hcut
      obtain ⟨mm, hmm⟩ : ∃ mm, mm = decide (x.kind ≠ 1 ∧ sendOk x.now x.next) := ⟨_, rfl⟩
      rw [← hmm]
      have HMM := Lib.hid hmm
      clear hmm
      go_upto_if 76 with fail
      go_cut [14] (fun s14 wx => s14 = .int .i64 (if mm = true then max tp x.next else tp) ∧ wa = wx)
      case first =>
        as_aux_lemma =>
          cases mm with
          | true =>
            by_cases hmx : tp < x.next
            · have HX := Lib.hid (show max tp x.next = x.next by omega)
              go_wp2_with fail
              go_meet
              exact ⟨by first | rw [if_pos rfl, HX.out] | rw [if_pos trivial, HX.out], rfl⟩
            · have HX := Lib.hid (show max tp x.next = tp by omega)
              go_wp2_with fail
              go_meet
              exact ⟨by first | rw [if_pos rfl, HX.out] | rw [if_pos trivial, HX.out], rfl⟩
          | false =>
            go_wp2_with fail
            go_meet
            exact ⟨by rw [if_neg (by simp)], rfl⟩
      obtain ⟨rfl, rfl⟩ := hcut
      obtain ⟨mo, hmo⟩ : ∃ mo, mo = if mm = true then max tp x.next else tp := ⟨_, rfl⟩
      rw [← hmo]
      by_cases hk1' : x.kind = 1
      · as_aux_lemma =>
          have n1 : (x.kind == 1) = true := by rw [beq_iff_eq]; exact hk1'
          have hmo' : mo = s.top := by rw [hmo, HMM.out, if_neg (by simp [hk1']), HTP.out]
          have HMO := Lib.hid hmo'
          clear hmo hmo' hk1'
          go_wp2_with fail
          refine (ack_any w.heap.size s x.now x.ep x.next _ HBA.out.1).mono ?_
          rintro e w2 ⟨rfl, hS2, hG2⟩
          have HB2 := Lib.hid (HBA.out.next hS2 hG2)
          have e2 := (only_cell hG2 (b := wz.heap.size) hlb (by simp; omega) 2).trans c2
          have e3 := (only_cell hG2 (b := wz.heap.size) hlb (by simp; omega) 3).trans c3
          have hl2 := hG2.size
          have hlb2 : wz.heap.size < w2.heap.size := by omega
          clear hS2 hG2 c0 c1 c2 c3
          have HSN2 := Lib.hid (seen_ack HSN.out x.now x.ep x.next)
          by_cases ha : ackOk s x.now x.ep x.next
          · have HAQ := Lib.hid (decide_eq_true ha)
            have hst : s.ack x.now x.ep x.next = ⟨s.win, s.res, s.ep, x.next, max s.sent x.next, s.top, x.now⟩ := by unfold Snd.ack; rw [if_pos ha]
            have hbq : (s.ack x.now x.ep x.next).base = x.next := by rw [hst]
            have htq : (s.ack x.now x.ep x.next).top = s.top := by rw [hst]
            have a3 : (x.ep != c) = false := by rw [bne_eq_false_iff_eq, ← HSN.out.2.2.1]; exact ha.2.2.1
            have a4 : decide (x.next ≤ bs) = false := decide_eq_false (by rw [HBS.out]; have := ha.2.2.2.1; omega)
            have a5 : decide (mo < x.next) = false := decide_eq_false (by rw [HMO.out]; have := ha.2.2.2.2; omega)
            have HTQ := Lib.hid htq
            have HBN := Lib.hid hbq
            clear ha hst hbq htq
            rw [HAQ.out]
            go_wp2_with fail
            go_quiet ((go_at_call 16; exact Calls.quiet_of_same (base_to _ _ _ _ HB2.out.1 HBN.out)))
            go_wp2_with fail
            go_roundg (L.length - (k + 1))
            case measure => omega
            case rel => exact ⟨k + 1, _, T, by omega, rfl, by go_num, rfl, by rw [HMO.out, HTQ.out], HSN2.out, HB2.out.below (below_drewN (Below.refl _ _) _)⟩
          · have HAQ := Lib.hid (decide_eq_false ha)
            have hst : s.ack x.now x.ep x.next = s := by unfold Snd.ack; rw [if_neg ha]
            have HST := Lib.hid hst
            have HBN := Lib.hid (show (s.ack x.now x.ep x.next).base = bs by rw [hst, HBS.out])
            clear ha hst
            rw [HAQ.out]
            go_wp2_with fail
            go_quiet ((go_at_call 16; exact Calls.quiet_of_same (base_to _ _ _ _ HB2.out.1 HBN.out)))
            go_wp2_with fail
            go_roundg (L.length - (k + 1))
            case measure => omega
            case rel => exact ⟨k + 1, _, T, by omega, rfl, by go_num, rfl, by rw [HMO.out, HST.out], HSN2.out, HB2.out.below (below_drewN (Below.refl _ _) _)⟩
      · have n1 : (x.kind == 1) = false := by rw [beq_eq_false_iff_ne]; exact hk1'
        have hmo' : mo = (s.send x.now x.next).top := by
          rw [send_top, hmo, HMM.out, HTP.out]
          by_cases hn : sendOk x.now x.next
          · rw [if_pos (decide_eq_true ⟨hk1', hn⟩), if_pos hn]
          · rw [if_neg (by simp [hn]), if_neg hn]
        have HMO := Lib.hid hmo'
        clear hmo hmo' hk1'
        go_wp2_with fail
        refine (send_any w.heap.size s x.now x.next _ HBA.out.1 HSN.out.1 HFX.out.2).mono ?_
        rintro e w2 hsb
        obtain ⟨A1, ca1, rfl, hA1, _, hge1, hS2, hG2⟩ := send_to hsb
        have HB2 := Lib.hid (HBA.out.next hS2 hG2)
        have e2 := (only_cell hG2 (b := wz.heap.size) hlb (by simp; omega) 2).trans c2
        have hl2 := hG2.size
        have hlb2 : wz.heap.size < w2.heap.size := by omega
        have HA1 := Lib.hid hA1
        obtain ⟨q1, q2, q3, q4, q5⟩ := send_ok s HSN.out.1 x.now x.next
        have HBN := Lib.hid (show (s.send x.now x.next).base = bs by rw [q2, HBS.out])
        have hml := many_le s HSN.out.1 x.now x.next
        rw [HSN.out.2.1] at hml
        have hmw : ¬ a < (s.many x.now x.next : Int) := by omega
        have hml16 : (s.many x.now x.next : Int) ≤ 16 := by have h1 := HSN.out.1.2.1; have h2 := HSN.out.2.1; omega
        have HSS := Lib.hid (fun T' h0 h1 => seen_send (T' := T') HSN.out x.now x.next h1 h0)
        have HSF := Lib.hid (fun h => send_facts s HSN.out.1 x.now x.next h)
        obtain ⟨n, hn⟩ : ∃ n, n = s.many x.now x.next := ⟨_, rfl⟩
        rw [← hn] at hmw hml16 HSS HSF ⊢
        have HN := Lib.hid hn
        clear hS2 hG2 c0 c1 c2 c3 hsb hge1 hA1 q1 q2 q3 q4 q5 hml hn
        go_wp2_with fail
        refine (base_to _ _ _ _ HB2.out.1 HBN.out).mono ?_
        rintro e w3 ⟨rfl, hw3⟩
        subst hw3
        obtain ⟨w2, rfl⟩ : ∃ wz : World, wz = w3 := ⟨_, rfl⟩
        have HLG := Lib.hid (fun j (hj : j < s.many x.now x.next) => (show (s.list x.now x.next).getD j 0 = s.head x.now + j by unfold Snd.list; rw [upList_get _ _ _ hj]))
        have HLL := Lib.hid (show (s.list x.now x.next).length = s.many x.now x.next from upList_len _ _)
        rw [← HN.out] at HLG HLL
        have hbB : 0 ≤ bs ∧ bs ≤ 1099511627776 := by have h1 := HSN.out.1; have h2 := HBS.out; unfold Snd.Ok at h1; omega
        obtain ⟨hbB1, hbB2⟩ := hbB
        have hTB : 0 ≤ T ∧ T ≤ 1099511627776 := by have h1 := HSN.out; unfold Seen Snd.Ok at h1; omega
        obtain ⟨hTB1, hTB2⟩ := hTB
        have hsent : s.sent ≤ max T bs := by have h1 := HSN.out.2.2.2.1; have h2 := HBS.out; omega
        have haw := HSN.out.2.1
        rw [haw] at HSF
        rw [← HBS.out] at HSF
        obtain ⟨hd, hhd⟩ : ∃ hd, hd = s.head x.now := ⟨_, rfl⟩
        rw [← hhd] at HLG HSF HSS
        obtain ⟨se, hse⟩ : ∃ se, se = s.sent := ⟨_, rfl⟩
        rw [← hse] at hsent HSF
        clear hhd hse haw
        go_wp2_with fail
        go_loopg [13, 20] n (fun gm top i wr => ∃ (j : Nat) (T' : Int), j ≤ n ∧ gm = n - j ∧ i = .int .i64 j ∧ top = .int .i64 T' ∧ ((j = 0 ∧ T' = T) ∨ (0 < j ∧ T' = max T (hd + j))) ∧ Below w2.heap.size w2 wr)
        case atStart => exact ⟨0, T, Nat.zero_le _, rfl, rfl, rfl, .inl ⟨rfl, rfl⟩, Below.refl _ _⟩
        case round =>
          obtain ⟨j, T', hj, rfl, rfl, rfl, hT', hbv⟩ := hrel
          obtain ⟨wv, rfl⟩ : ∃ wz : World, wz = wr := ⟨_, rfl⟩
          have HBV := Lib.hid hbv
          have HT' := Lib.hid hT'
          by_cases hjl : j < n
          · have hji : (j : Int) < (n : Int) := by omega
            have hj0 : (0 : Int) ≤ (j : Int) := by omega
            obtain ⟨g1, g2, g3, g4, _⟩ := HSF.out (by omega)
            obtain ⟨bu, bo, rfl, hbu, hSu⟩ := HA1.out (by rw [HLL.out]; omega)
            have u0 := (hbv.cell (p := ⟨bu, bo + j, none⟩) hbu).trans (hSu j (by rw [HLL.out]; exact hjl))
            rw [HLG.out j hjl] at u0
            have v2 := (hbv.cell (p := ⟨wz.heap.size, 2, none⟩) hlb2).trans e2
            have hlv := hbv.size
            have hlb3 : wz.heap.size < wv.heap.size := by omega
            have hTn : x.next ≤ 1099511627776 := by have h1 := many_ok (s := s) (now := x.now) (next := x.next) (by rw [← HN.out]; omega); unfold sendOk at h1; omega
            have HSU := Lib.hid hSu
            have hw1 : IntKind.i64.wrap (hd + (j : Int) - bs) = hd + (j : Int) - bs := IntWalk.i64_in _ (by omega)
            have hw2 : IntKind.i64.wrap (hd + (j : Int) + 1) = hd + (j : Int) + 1 := IntWalk.i64_in _ (by omega)
            have t1 : decide (hd + (j : Int) < bs) = false := decide_eq_false (by omega)
            have t2 : decide (x.next ≤ hd + (j : Int)) = false := decide_eq_false (by omega)
            have t3 : decide (a ≤ hd + (j : Int) - bs) = false := decide_eq_false (by omega)
            clear hSu hbv hT'
            go_upto_region 23 with fail
            go_cut [201] (fun s201 wx => s201 = .bool false ∧ Below wv.heap.size wv wx)
            case first =>
              as_aux_lemma =>
                rcases HT'.out with ⟨z, zt⟩ | ⟨z, zt⟩
                · have t4 : decide (0 < j) = false := decide_eq_false (by omega)
                  by_cases hTb : T' < bs
                  · have t5 : decide (bs < hd + (j : Int)) = false := decide_eq_false (by omega)
                    clear z zt
                    go_quiet (fail)
                    go_wp2_with fail
                    go_meet
                    exact ⟨rfl, by (repeat (first | (with_reducible assumption) | (with_reducible exact Below.refl _ _) | ((with_reducible refine Below.setCell ?_ ?_ _); rotate_left; · (first | omega | (simp; done) | (simp; omega) | (simp at *; omega))) | ((with_reducible refine Below.alloc ?_ ?_ _); rotate_left; · (first | omega | (simp; done) | (simp; omega) | (simp at *; omega))) | (with_reducible refine Below.drew ?_) | (with_reducible refine below_drewN ?_ _) | ((refine Below.trans ?_ (Below.mono (by with_reducible assumption) ?_)); rotate_left; · (first | omega | (simp; done) | (simp; omega) | (simp at *; omega)))))⟩
                  · have t5 : decide (T' < hd + (j : Int)) = false := decide_eq_false (by omega)
                    clear z zt
                    go_quiet (fail)
                    go_wp2_with fail
                    go_meet
                    exact ⟨rfl, by (repeat (first | (with_reducible assumption) | (with_reducible exact Below.refl _ _) | ((with_reducible refine Below.setCell ?_ ?_ _); rotate_left; · (first | omega | (simp; done) | (simp; omega) | (simp at *; omega))) | ((with_reducible refine Below.alloc ?_ ?_ _); rotate_left; · (first | omega | (simp; done) | (simp; omega) | (simp at *; omega))) | (with_reducible refine Below.drew ?_) | (with_reducible refine below_drewN ?_ _) | ((refine Below.trans ?_ (Below.mono (by with_reducible assumption) ?_)); rotate_left; · (first | omega | (simp; done) | (simp; omega) | (simp at *; omega)))))⟩
                · obtain ⟨i, hi⟩ : ∃ i, j = i + 1 := ⟨j - 1, by omega⟩
                  have hij : (j : Int) - 1 = (i : Int) := by omega
                  have hi0 : (0 : Int) ≤ (i : Int) := by omega
                  have hil : (i : Int) < (n : Int) := by omega
                  have t4 : (0 : Int) < (j : Int) := by omega
                  have t4' : 0 < j := z
                  have hTb : ¬ T' < bs := by omega
                  have t5 : decide (T' < hd + (j : Int)) = false := decide_eq_false (by omega)
                  have u1 := (HBV.out.cell (p := ⟨bu, bo + i, none⟩) hbu).trans (HSU.out i (by rw [HLL.out]; omega))
                  rw [HLG.out i (by omega)] at u1
                  have hw3 : IntKind.i64.wrap (hd + (i : Int) + 1) = hd + (i : Int) + 1 := IntWalk.i64_in _ (by omega)
                  have hw4 : IntKind.i64.wrap ((j : Int) - 1) = (i : Int) := by rw [hij]; exact IntWalk.i64_in _ (by omega)
                  have t6 : (hd + (j : Int) != hd + (i : Int) + 1) = false := by rw [bne_eq_false_iff_eq]; omega
                  clear z zt hi
                  go_quiet (fail)
                  go_wp2_with fail
                  go_meet
                  exact ⟨rfl, by (repeat (first | (with_reducible assumption) | (with_reducible exact Below.refl _ _) | ((with_reducible refine Below.setCell ?_ ?_ _); rotate_left; · (first | omega | (simp; done) | (simp; omega) | (simp at *; omega))) | ((with_reducible refine Below.alloc ?_ ?_ _); rotate_left; · (first | omega | (simp; done) | (simp; omega) | (simp at *; omega))) | (with_reducible refine Below.drew ?_) | (with_reducible refine below_drewN ?_ _) | ((refine Below.trans ?_ (Below.mono (by with_reducible assumption) ?_)); rotate_left; · (first | omega | (simp; done) | (simp; omega) | (simp at *; omega)))))⟩
            obtain ⟨rfl, hbx⟩ := hcut
            obtain ⟨wx, rfl⟩ : ∃ wq : World, wq = wc := ⟨_, rfl⟩
            have u0' := (hbx.cell (p := ⟨bu, bo + j, none⟩) (by show bu < _; omega)).trans u0
            have HBX := Lib.hid (HBV.out.trans (hbx.mono hlv))
            have HTN := Lib.hid (show max T (hd + ((j + 1 : Nat) : Int)) = max T' (hd + (j : Int) + 1) by
              rcases HT'.out with ⟨z, zt⟩ | ⟨z, zt⟩ <;> omega)
            clear u0 hbx t1 t2 t3 v2
            by_cases hTx : T' < hd + (j : Int) + 1
            · have HM := Lib.hid (show max T' (hd + (j : Int) + 1) = hd + (j : Int) + 1 by omega)
              go_wp2_with fail
              go_roundg (n - (j + 1))
              case measure => omega
              case rel => exact ⟨j + 1, _, by omega, rfl, by go_num, rfl, .inr ⟨by omega, by rw [HTN.out, HM.out]⟩, HBX.out⟩
            · have HM := Lib.hid (show max T' (hd + (j : Int) + 1) = T' by omega)
              go_wp2_with fail
              go_roundg (n - (j + 1))
              case measure => omega
              case rel => exact ⟨j + 1, _, by omega, rfl, by go_num, rfl, .inr ⟨by omega, by rw [HTN.out, HM.out]⟩, HBX.out⟩
          · obtain rfl : j = n := by omega
            have hji : ¬ (j : Int) < (j : Int) := by omega
            have HSX := Lib.hid (HSS.out T' (fun z => by rcases HT'.out with ⟨_, zt⟩ | ⟨zz, _⟩; exact zt; omega) (by rcases HT'.out with ⟨z, zt⟩ | ⟨z, zt⟩; exact .inl ⟨z, zt⟩; exact .inr zt))
            clear hbv hT' hj hjl
            go_wp2_with fail
            go_roundg (L.length - (k + 1))
            case measure => omega
            case rel => exact ⟨k + 1, _, T', by omega, rfl, by go_num, rfl, by rw [HMO.out], HSX.out, HB2.out.below HBV.out⟩
    · obtain rfl : k = L.length := by omega
      have hki : ¬ (L.length : Int) < (L.length : Int) := by omega
      go_wp2_with fail
      refine (works_any _).mono ?_
      rintro e w1 ⟨rfl, hb1⟩
      go_wp2
      go_ret
      exact ⟨rfl, (HB.out.below hb1).2⟩

theorem own : ownKnob Try.prog.godebug = none := by kernel_rfl

set_option maxRecDepth 100000 in
theorem lifted (os : Os) (started : os.Started) (H : Type) (enc : TypeId × Value → H) :
    ReturnsInHanded {} Try.checked os 4 .any (Rows.senderWindowSpec.pre6 enc Try.prog Try.f4 Rows.senderWindowRow.domain false) (Rows.senderWindowSpec.post enc Try.prog Try.f4 false true false false) := by
  refine law_lifted (C := Try.checked) (tb := 4) own started (by kernel_rfl) Try.func4
    (ChangeSpec.witness6 (enc := enc) (C := Try.checked) false ⟨#[], #[.int .i64 0, .int .i64 0, .int .i64 0, .int .i64 0, .slice none 0 0], []⟩ 8 (by kernel_rfl) (by kernel_rfl) (by kernel_rfl) (by kernel_rfl))
    rfl (by kernel_rfl) (by kernel_rfl) (by kernel_rfl) Try.underlying4 (fun ds h => ?_) ?_
  · rw [show Try.f4.params = #[3, 3, 3, 3, 22] from Try.params4] at h
    match ds, h with
    | [_, _, _, _, _], _ => rfl
  · intro W base args ds before hval hA hlt hsz
    rw [show Try.f4.params = #[3, 3, 3, 3, 22] from Try.params4] at hA hval hsz
    obtain ⟨v0, vs0, d0, ds0, p0, q0, hargs, rfl, rfl, h0, r0⟩ := trodAll_cons hA
    obtain ⟨v1, vs1, d1, ds1, p1, q1, rfl, rfl, rfl, h1, r1⟩ := trodAll_cons r0
    obtain ⟨v2, vs2, d2, ds2, p2, q2, rfl, rfl, rfl, h2, r2⟩ := trodAll_cons r1
    obtain ⟨v3, vs3, d3, ds3, p3, q3, rfl, rfl, rfl, h3, r3⟩ := trodAll_cons r2
    obtain ⟨v4, vs4, d4, ds4, p4, q4, rfl, rfl, rfl, h4, r4⟩ := trodAll_cons r3
    obtain ⟨rfl, rfl, rfl⟩ := trodAll_nil r4
    obtain rfl : args = #[v0, v1, v2, v3, v4] := by cases args; simp_all
    obtain ⟨a, rfl, _, _, _⟩ := open_int Try.underlying3 (hval 0 3 v0 rfl rfl) h0
    obtain ⟨b, rfl, _, _, _⟩ := open_int Try.underlying3 (hval 1 3 v1 rfl rfl) h1
    obtain ⟨c, rfl, _, _, _⟩ := open_int Try.underlying3 (hval 2 3 v2 rfl rfl) h2
    obtain ⟨d, rfl, _, _, _⟩ := open_int Try.underlying3 (hval 3 3 v3 rfl rfl) h3
    obtain ⟨A, cap, L, rfl, hcap, hc16, hS, hF⟩ := open_ops (hval 4 _ v4 rfl rfl) h4 hsz (j := 4) rfl rfl
    exact walk a b c d A cap L W hS hF

theorem proved : Rows.SenderWindowSaid :=
  OpenClaim.holds_of_wide 4 Try.f4 rfl rfl rfl rfl rfl rfl rfl ⟨rfl, rfl, rfl, rfl, rfl⟩ rfl rfl rfl rfl rfl (by kernel_rfl) Try.func4 (by kernel_rfl)
    (of_decide_eq_true (by kernel_rfl)) (by unfold Func.isWrapper; rw [if_neg (of_decide_eq_false (by kernel_rfl))]; exact ⟨rfl, rfl⟩)
    (fun os started H enc _ => lifted os started H enc)
#print axioms proved
end SenderWindow
end Go.Proofs.Ytihgcdggffidlaa
