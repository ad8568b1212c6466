/-
  What is proved here: the law SlotsBack returns true for every slot and all times. Conditions: none.
-/
import Derived.Test.YtaccbkmlkmdmpaaSlotKnown
import Derived.Test.YtaccbkmlkmdmpaaSlotKit
import Derived.Test.YtaccbkmlkmdmpaaSlotOpen
import Derived.Test.YtaccbkmlkmdmpaaCore2
namespace Go.Proofs.Ytaccbkmlkmdmpaa
namespace SlotsBack
open Go.ChangeShapes Go.WideShapes Go.ChangeAt Go.RowKit Go.Deep
attribute [local go_sem high] eq_slot ne_slot eq3_self

theorem wait_up (e a b : Int) (he : 1 ≤ e) (h : a ≤ b) : waitOf e a ≤ waitOf e b := by
  unfold waitOf
  repeat' split
  all_goals omega

/-- how long the last wait was. -/
def lastWait (e f : Int) (k : Nat) : Int := if k = 0 then 0 else waitOf e f

theorem wait_pos (e f : Int) (he : 1 ≤ e) : 1 ≤ waitOf e f ∧ waitOf e f ≤ 32 * e := by
  unfold waitOf
  repeat' split
  all_goals omega

theorem last_le (e f : Int) (k : Nat) (he : 1 ≤ e) (h2 : e ≤ 1048576) : 0 ≤ lastWait e f k ∧ lastWait e f k ≤ waitOf e (min (f + 1) 10 + (if 10 ≤ f then f - 10 else 0)) ∧ lastWait e f k ≤ 33554432 := by
  have a := wait_pos e f he
  have b := wait_up e f (min (f + 1) 10 + (if 10 ≤ f then f - 10 else 0)) he (by split <;> omega)
  have c := wait_pos e (min (f + 1) 10 + (if 10 ≤ f then f - 10 else 0)) he
  unfold lastWait
  split <;> omega

set_option maxRecDepth 100000 in
set_option maxHeartbeats 2000000 in
theorem walk_no (s : Slot) (A : Option Addr) (cap : Nat) (L : List Int) (w : World) (h : ¬ s.Ok ∨ 2000 < L.length) :
    Calls Try.prog 6 #[.agg #[.int .i64 s.e, .int .i64 s.n, .int .i64 s.f], .slice A L.length cap] w fun e w' => e = .returned (.bool true) ∧ Below w.heap.size w w' := by
  by_cases hs : s.Ok
  · have hl : (2000 : Int) < (L.length : Int) := by have := h.resolve_left (fun c => c hs); omega
    go_enter Try.func6, Try.ntmps6
    go_wp2_with fail
    refine (lsound_yes s _ hs).mono ?_
    rintro e w1 ⟨rfl, hb1⟩
    have hw1 := hb1.size; try simp only [World.size_alloc] at hw1
    go_wp2_with fail
    refine (known_any _).mono ?_
    rintro e w2 ⟨rfl, hb2⟩
    have hw2 := hb2.size; try simp only [World.size_alloc] at hw2
    go_wp2_with fail
    go_ret
    exact ⟨rfl, by (repeat (first | (with_reducible assumption) | (with_reducible exact Below.refl _ _) | ((with_reducible refine Below.setCell ?_ ?_ _); rotate_left; · (first | omega | (simp; done) | (simp; omega) | (simp at *; omega))) | ((with_reducible refine Below.alloc ?_ ?_ _); rotate_left; · (first | omega | (simp; done) | (simp; omega) | (simp at *; omega))) | (with_reducible refine Below.drew ?_) | (with_reducible refine below_drewN ?_ _) | ((refine Below.trans ?_ (Below.mono (by with_reducible assumption) ?_)); rotate_left; · (first | omega | (simp; done) | (simp; omega) | (simp at *; omega)))))⟩
  · go_enter Try.func6, Try.ntmps6
    go_wp2_with fail
    refine (lsound_no s _ hs).mono ?_
    rintro e w1 ⟨rfl, hb1⟩
    have hw1 := hb1.size; try simp only [World.size_alloc] at hw1
    go_wp2_with fail
    refine (known_any _).mono ?_
    rintro e w2 ⟨rfl, hb2⟩
    have hw2 := hb2.size; try simp only [World.size_alloc] at hw2
    go_wp2_with fail
    go_ret
    exact ⟨rfl, by (repeat (first | (with_reducible assumption) | (with_reducible exact Below.refl _ _) | ((with_reducible refine Below.setCell ?_ ?_ _); rotate_left; · (first | omega | (simp; done) | (simp; omega) | (simp at *; omega))) | ((with_reducible refine Below.alloc ?_ ?_ _); rotate_left; · (first | omega | (simp; done) | (simp; omega) | (simp at *; omega))) | (with_reducible refine Below.drew ?_) | (with_reducible refine below_drewN ?_ _) | ((refine Below.trans ?_ (Below.mono (by with_reducible assumption) ?_)); rotate_left; · (first | omega | (simp; done) | (simp; omega) | (simp at *; omega)))))⟩

/-- what holds of the slot after k failures. -/
structure After (s x : Slot) (k : Nat) : Prop where
  ok : x.Ok
  e : x.e = s.e
  low : min (k : Int) 10 ≤ x.f

set_option maxRecDepth 100000 in
set_option maxHeartbeats 4000000 in
theorem walk_yes (s : Slot) (A : Option Addr) (cap : Nat) (L : List Int) (w : World) (hs : s.Ok) (hl : L.length ≤ 2000) (hA : IntsAt .i64 w A L) :
    Calls Try.prog 6 #[.agg #[.int .i64 s.e, .int .i64 s.n, .int .i64 s.f], .slice A L.length cap] w fun e w' => e = .returned (.bool true) ∧ Below w.heap.size w w' := by
  have HA := Lib.hid hA
  clear hA
  have HOK := Lib.hid hs
  have HS := Lib.hid (fun W => lsound_yes s W hs)
  obtain ⟨q1, q2, _, _, _, _⟩ := id hs
  clear hs
  have hl' : ¬ (2000 : Int) < (L.length : Int) := by omega
  go_enter Try.func6, Try.ntmps6
  go_wp2_with fail
  refine (HS.out _).mono ?_
  rintro e w1 ⟨rfl, hb1⟩
  have B0 := (Blk.new w 29 #[.int .i64 s.e, .int .i64 s.n, .int .i64 s.f]).below hb1 (by first | omega | (simp; done) | (simp; omega) | (simp at *; omega))
  have hw1 := hb1.size; try simp only [World.size_alloc] at hw1
  have hl1 : w.heap.size < w1.heap.size := by omega
  have hbw1 : Below w.heap.size w w1 := by (repeat (first | (with_reducible assumption) | (with_reducible exact Below.refl _ _) | ((with_reducible refine Below.setCell ?_ ?_ _); rotate_left; · (first | omega | (simp; done) | (simp; omega) | (simp at *; omega))) | ((with_reducible refine Below.alloc ?_ ?_ _); rotate_left; · (first | omega | (simp; done) | (simp; omega) | (simp at *; omega))) | (with_reducible refine Below.drew ?_) | (with_reducible refine below_drewN ?_ _) | ((refine Below.trans ?_ (Below.mono (by with_reducible assumption) ?_)); rotate_left; · (first | omega | (simp; done) | (simp; omega) | (simp at *; omega)))))
  have HB0 := Lib.hid B0
  clear hb1 B0
  go_wp2_with fail
  go_loopg [5, 6] L.length (fun g wv i wr => ∃ (k : Nat) (x : Slot), k ≤ L.length ∧ g = L.length - k ∧ i = .int .i64 k ∧ wv = .int .i64 (lastWait s.e x.f k) ∧ After s x k ∧ Blk wr w.heap.size 29 #[.int .i64 x.e, .int .i64 x.n, .int .i64 x.f] ∧ Below w.heap.size w wr)
  case atStart => exact ⟨0, s, Nat.zero_le _, rfl, rfl, rfl, ⟨HOK.out, rfl, by have := HOK.out.2.2.2.2.1; omega⟩, HB0.out, hbw1⟩
  case round =>
    clear hl1 hbw1 HB0
    obtain ⟨k, x, hk, rfl, rfl, rfl, haf, hblk, hbw⟩ := hrel
    obtain ⟨hxo, hxe, hxl⟩ := haf
    by_cases hlt : k < L.length
    · obtain ⟨b, off, rfl, hbl, hcell⟩ := HA.out.cells hbw hlt
      obtain ⟨z, hz⟩ : ∃ z, z = L.getD k 0 := ⟨_, rfl⟩
      rw [← hz] at hcell
      clear hz
      have hki : (k : Int) < (L.length : Int) := by omega
      have hk0 : (0 : Int) ≤ (k : Int) := by omega
      obtain ⟨now, hnow⟩ : ∃ now, now = pickM z 1099511627776 := ⟨_, rfl⟩
      have hpn : 0 ≤ now ∧ now < 1099511627776 := by
        rw [hnow]; unfold pickM
        rw [if_neg (by omega)]
        omega
      have HP := Lib.hid (fun W => pick_any z 1099511627776 W (by omega))
      rw [← hnow] at HP
      clear hnow
      obtain ⟨bn, bf, hbb, b1, b2, b3, b4, b5, b6, b7, b8⟩ := ill_facts x now hxo ⟨by omega, by omega⟩
      have HD := Lib.hid (fun W => done_at x _ now false W hbb)
      have HB1 := Lib.hid b1
      obtain ⟨x1, x2, x3, x4, x5, x6⟩ := id hxo
      obtain ⟨_, _, y3, y4, y5, y6⟩ := id b1
      dsimp only at y3 y4 y5 y6
      have hlast : 0 ≤ lastWait s.e x.f k ∧ lastWait s.e x.f k ≤ bn - now ∧ lastWait s.e x.f k ≤ 33554432 := by
        rw [b8, b7, ← hxe]
        have := last_le x.e x.f k x1 x2
        have e0 : (if 10 ≤ x.f then x.f - 10 else 0) = 0 := by split <;> omega
        rw [e0, Int.add_zero] at this
        exact this
      have hfin : bn - now = lastWait s.e bf (k + 1) := by
        unfold lastWait
        rw [if_neg (by omega), b8, hxe]
      have hlow : min ((k : Int) + 1) 10 ≤ bf := by omega
      obtain ⟨lw, hlw⟩ : ∃ lw, lw = lastWait s.e x.f k := ⟨_, rfl⟩
      rw [← hlw] at hlast ⊢
      have HF := Lib.hid hfin
      have HXE := Lib.hid hxe
      have HXL := Lib.hid hxl
      have HLOW := Lib.hid hlow
      obtain ⟨m0, m1, m2⟩ := hlast
      obtain ⟨e0, e1, e2, e3, e4, e5⟩ := hblk.three
      have hsz := hblk.lt
      clear hlw hfin hxe hxl hbb b1 b7 b8 hxo
      go_wp2_with fail
      refine (HP.out _).mono ?_
      rintro e w2 ⟨rfl, rfl⟩
      go_wp2_with fail
      refine (HD.out _).mono ?_
      rintro e w3 ⟨rfl, hb3⟩
      have B3 := hblk.below hb3 hsz
      have hw3 := hb3.size; try simp only [World.size_alloc] at hw3
      have hbw3 : Below w.heap.size w w3 := by (repeat (first | (with_reducible assumption) | (with_reducible exact Below.refl _ _) | ((with_reducible refine Below.setCell ?_ ?_ _); rotate_left; · (first | omega | (simp; done) | (simp; omega) | (simp at *; omega))) | ((with_reducible refine Below.alloc ?_ ?_ _); rotate_left; · (first | omega | (simp; done) | (simp; omega) | (simp at *; omega))) | (with_reducible refine Below.drew ?_) | (with_reducible refine below_drewN ?_ _) | ((refine Below.trans ?_ (Below.mono (by with_reducible assumption) ?_)); rotate_left; · (first | omega | (simp; done) | (simp; omega) | (simp at *; omega)))))
      have HST := Lib.hid (((B3.set_ 0 (.int .i64 x.e)).set_ 1 (.int .i64 bn)).set_ 2 (.int .i64 bf))
      clear hb3 hblk e0 e1 e2 e3 e4 e5
      obtain ⟨e0, e1, e2, e3, e4, e5⟩ := B3.three
      clear B3
      go_wp2_with fail
      all_goals
        go_roundg (L.length - (k + 1))
        case measure => omega
        case rel => exact ⟨k + 1, ⟨x.e, bn, bf⟩, by omega, rfl, by go_num, congrArg _ HF.out, ⟨HB1.out, HXE.out, by show min ((k + 1 : Nat) : Int) 10 ≤ bf; have := HLOW.out; first | omega | (split at this <;> omega)⟩, by simpa using HST.out, by (repeat (first | (with_reducible assumption) | (with_reducible exact Below.refl _ _) | ((with_reducible refine Below.setCell ?_ ?_ _); rotate_left; · (first | omega | (simp; done) | (simp; omega) | (simp at *; omega))) | ((with_reducible refine Below.alloc ?_ ?_ _); rotate_left; · (first | omega | (simp; done) | (simp; omega) | (simp at *; omega))) | (with_reducible refine Below.drew ?_) | (with_reducible refine below_drewN ?_ _) | ((refine Below.trans ?_ (Below.mono (by with_reducible assumption) ?_)); rotate_left; · (first | omega | (simp; done) | (simp; omega) | (simp at *; omega)))))⟩
    · obtain rfl : k = L.length := by omega
      have hki : ¬ (L.length : Int) < (L.length : Int) := by omega
      obtain ⟨x1, x2, x3, x4, x5, x6⟩ := id hxo
      have hsz := hblk.lt
      obtain ⟨e0, e1, e2, e3, e4, e5⟩ := hblk.three
      clear HS HOK hxe hxl hlt
      by_cases hn : x.n ≤ 1099511627776
      · obtain ⟨an, ha, a1, a2, a3, a4, a5, a6, a7, a8⟩ := well_facts x x.n hxo ⟨by omega, by omega⟩
        have HD := Lib.hid (fun W => done_at x _ x.n true W ha)
        have han := a7 (Int.le_refl _)
        have han' : (an == x.n + x.e) = true := by rw [beq_iff_eq]; exact han
        have hnn : ¬ 1099511627776 < x.n := by omega
        clear a1 a2 a4 a5 a6 a7 a8 ha han hxo
        go_wp2_with fail
        refine (HD.out _).mono ?_
        rintro e w3 ⟨rfl, hb3⟩
        have B3 := hblk.below hb3 hsz
        have hw3 := hb3.size; try simp only [World.size_alloc] at hw3
        have hbw3 : Below w.heap.size w w3 := by (repeat (first | (with_reducible assumption) | (with_reducible exact Below.refl _ _) | ((with_reducible refine Below.setCell ?_ ?_ _); rotate_left; · (first | omega | (simp; done) | (simp; omega) | (simp at *; omega))) | ((with_reducible refine Below.alloc ?_ ?_ _); rotate_left; · (first | omega | (simp; done) | (simp; omega) | (simp at *; omega))) | (with_reducible refine Below.drew ?_) | (with_reducible refine below_drewN ?_ _) | ((refine Below.trans ?_ (Below.mono (by with_reducible assumption) ?_)); rotate_left; · (first | omega | (simp; done) | (simp; omega) | (simp at *; omega)))))
        clear hb3 hblk e0 e1 e2 e3 e4 e5
        obtain ⟨e0, e1, e2, e3, e4, e5⟩ := B3.three
        have hl3 : w.heap.size < w3.heap.size := by omega
        clear B3
        go_wp2_with fail
        refine (known_any _).mono ?_
        rintro e w4 ⟨rfl, hb4⟩
        have hw4 := hb4.size; try simp only [World.size_alloc] at hw4
        go_wp2_with fail
        go_ret
        exact ⟨rfl, by (repeat (first | (with_reducible assumption) | (with_reducible exact Below.refl _ _) | ((with_reducible refine Below.setCell ?_ ?_ _); rotate_left; · (first | omega | (simp; done) | (simp; omega) | (simp at *; omega))) | ((with_reducible refine Below.alloc ?_ ?_ _); rotate_left; · (first | omega | (simp; done) | (simp; omega) | (simp at *; omega))) | (with_reducible refine Below.drew ?_) | (with_reducible refine below_drewN ?_ _) | ((refine Below.trans ?_ (Below.mono (by with_reducible assumption) ?_)); rotate_left; · (first | omega | (simp; done) | (simp; omega) | (simp at *; omega)))))⟩
      · obtain ⟨an, ha, a1, a2, a3, a4, a5, a6, a7, a8⟩ := well_facts x 1099511627776 hxo ⟨by omega, by omega⟩
        have HD := Lib.hid (fun W => done_at x _ 1099511627776 true W ha)
        have hnn : 1099511627776 < x.n := by omega
        clear a1 a2 a4 a5 a6 a7 a8 ha hxo
        go_wp2_with fail
        refine (HD.out _).mono ?_
        rintro e w3 ⟨rfl, hb3⟩
        have B3 := hblk.below hb3 hsz
        have hw3 := hb3.size; try simp only [World.size_alloc] at hw3
        have hbw3 : Below w.heap.size w w3 := by (repeat (first | (with_reducible assumption) | (with_reducible exact Below.refl _ _) | ((with_reducible refine Below.setCell ?_ ?_ _); rotate_left; · (first | omega | (simp; done) | (simp; omega) | (simp at *; omega))) | ((with_reducible refine Below.alloc ?_ ?_ _); rotate_left; · (first | omega | (simp; done) | (simp; omega) | (simp at *; omega))) | (with_reducible refine Below.drew ?_) | (with_reducible refine below_drewN ?_ _) | ((refine Below.trans ?_ (Below.mono (by with_reducible assumption) ?_)); rotate_left; · (first | omega | (simp; done) | (simp; omega) | (simp at *; omega)))))
        clear hb3 hblk e0 e1 e2 e3 e4 e5
        obtain ⟨e0, e1, e2, e3, e4, e5⟩ := B3.three
        have hl3 : w.heap.size < w3.heap.size := by omega
        clear B3
        go_wp2_with fail
        refine (known_any _).mono ?_
        rintro e w4 ⟨rfl, hb4⟩
        have hw4 := hb4.size; try simp only [World.size_alloc] at hw4
        go_wp2_with fail
        go_ret
        exact ⟨rfl, by (repeat (first | (with_reducible assumption) | (with_reducible exact Below.refl _ _) | ((with_reducible refine Below.setCell ?_ ?_ _); rotate_left; · (first | omega | (simp; done) | (simp; omega) | (simp at *; omega))) | ((with_reducible refine Below.alloc ?_ ?_ _); rotate_left; · (first | omega | (simp; done) | (simp; omega) | (simp at *; omega))) | (with_reducible refine Below.drew ?_) | (with_reducible refine below_drewN ?_ _) | ((refine Below.trans ?_ (Below.mono (by with_reducible assumption) ?_)); rotate_left; · (first | omega | (simp; done) | (simp; omega) | (simp at *; omega)))))⟩

theorem walk (s : Slot) (A : Option Addr) (cap : Nat) (L : List Int) (w : World) (hA : IntsAt .i64 w A L) :
    Calls Try.prog 6 #[.agg #[.int .i64 s.e, .int .i64 s.n, .int .i64 s.f], .slice A L.length cap] w fun e w' => e = .returned (.bool true) ∧ Below w.heap.size w w' := by
  by_cases hs : s.Ok
  · by_cases hl : L.length ≤ 2000
    · exact walk_yes s A cap L w hs hl hA
    · exact walk_no s A cap L w (.inr (by omega))
  · exact walk_no s A cap L w (.inl hs)

theorem own : ownKnob Try.prog.godebug = none := by kernel_rfl

set_option maxRecDepth 100000 in
theorem lifted (os : Os) (started : os.Started) (H : Type) (enc : TypeId × Value → H) :
    ReturnsInHanded {} Try.checked os 6 .any (Rows.slotsBackSpec.pre6 enc Try.prog Try.f6 Rows.slotsBackRow.domain false) (Rows.slotsBackSpec.post enc Try.prog Try.f6 false true false false) := by
  refine law_lifted (C := Try.checked) (tb := 4) own started (by kernel_rfl) Try.func6
    (ChangeSpec.witness6 (enc := enc) (C := Try.checked) false ⟨#[], #[.agg #[.int .i64 0, .int .i64 0, .int .i64 0], .slice none 0 0], []⟩ 8 (by kernel_rfl) (by kernel_rfl) (by kernel_rfl) (by kernel_rfl))
    rfl (by kernel_rfl) (by kernel_rfl) (by kernel_rfl) Try.underlying4 (fun ds h => ?_) ?_
  · rw [show Try.f6.params = #[29, 37] from Try.params6] at h
    match ds, h with
    | [_, _], _ => rfl
  · intro W base args ds before hval hA hlt hsz
    rw [show Try.f6.params = #[29, 37] from Try.params6] at hA hval hsz
    obtain ⟨v0, vs0, d0, ds0, p0, q0, hargs, rfl, rfl, h0, r0⟩ := trodAll_cons hA
    obtain ⟨v1, vs1, d1, ds1, p1, q1, rfl, rfl, rfl, h1, r1⟩ := trodAll_cons r0
    obtain ⟨rfl, rfl, rfl⟩ := trodAll_nil r1
    obtain rfl : args = #[v0, v1] := by cases args; simp_all
    obtain ⟨s, rfl, _⟩ := open_slot (hval 0 _ v0 rfl rfl) h0
    obtain ⟨A, cap, L, rfl, _, _, hS, _⟩ := open_ints_at (n := 8) Try.underlying37 Try.underlying3 (by kernel_rfl) (by kernel_rfl) (hval 1 _ v1 rfl rfl) h1 hsz (j := 1) rfl rfl
    exact walk s A cap L W hS

theorem proved : Rows.SlotsBackSaid :=
  OpenClaim.holds_of_wide 6 Try.f6 rfl rfl rfl rfl rfl rfl rfl ⟨rfl, rfl, rfl, rfl, rfl⟩ rfl rfl rfl rfl rfl (by kernel_rfl) Try.func6 (by kernel_rfl)
    (of_decide_eq_true (by kernel_rfl)) (by unfold Func.isWrapper; rw [if_neg (of_decide_eq_false (by kernel_rfl))]; exact ⟨rfl, rfl⟩)
    (fun os started H enc _ => lifted os started H enc)
#print axioms proved
end SlotsBack
end Go.Proofs.Ytaccbkmlkmdmpaa
