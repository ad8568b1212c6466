/-
  What is proved here: the law SenderComes returns true for every sender and all losses. Conditions: none.
-/
import Derived.Test.YtihgcdggffidlaaSndKit
import Derived.Deep.RegionHeld3
import Derived.Deep.CutBlock
namespace Go.Proofs.Ytihgcdggffidlaa
namespace SenderComes
open Go.ChangeShapes Go.WideShapes Go.ChangeAt Go.RowKit Go.Deep

def One (w : World) (s : Snd) (wr : World) : Prop := SB 47 wr w.heap.size s ∧ Below w.heap.size w wr
theorem One.below {w wr w' : World} {s : Snd} (h : One w s wr) (hb : Below wr.heap.size wr w') : One w s w' := ⟨h.1.below hb, h.2.trans (hb.mono h.2.size)⟩
theorem One.next {w wr w' : World} {s t : Snd} (h : One w s wr) (hS : SB 47 w' w.heap.size t) (hg : wr.grownBy w' (some w.heap.size)) : One w t w' :=
  ⟨hS, h.2.trans (below_grown hg (fun b e => by cases e; exact Nat.le_refl _) h.2.size)⟩
theorem base_to (g : Nat) (s : Snd) (b : Int) (w : World) (h : SB 47 w g s) (hb : s.base = b) :
    Calls Try.prog 16 #[.pointer (some ⟨g, 0, none⟩)] w fun e w' => e = .returned (.int .i64 b) ∧ w' = w := by
  subst hb
  exact base_any g s w h

theorem pick_down (k n : Int) (hn : 1 ≤ n) : -n < k.tmod n ∧ k.tmod n < n := by
  have e1 := Int.emod_nonneg k (show n ≠ 0 by omega)
  have e2 := Int.emod_lt_of_pos k (show 0 < n by omega)
  by_cases hk : 0 ≤ k
  · rw [Int.tmod_eq_emod_of_nonneg hk]
    omega
  · have hm : k.tmod n = -((-k) % n) := by
      have : k = -(-k) := by omega
      conv => lhs; rw [this]
      rw [Int.neg_tmod, Int.tmod_eq_emod_of_nonneg (by omega)]
    have r1 := Int.emod_nonneg (-k) (show n ≠ 0 by omega)
    have r2 := Int.emod_lt_of_pos (-k) (show 0 < n by omega)
    omega
/-- Pick out of n numbers. -/
theorem pick_to (k n : Int) (w : World) (h1 : 1 ≤ n) (h2 : n ≤ 1000000) : ∃ m : Int, 0 ≤ m ∧ m < n ∧
    Calls Try.prog 18 #[.int .i64 k, .int .i64 n] w fun e w' => e = .returned (.int .i64 m) ∧ w' = w := by
  obtain ⟨p1, p2⟩ := pick_down k n h1
  have hn : ¬ n < 1 := by omega
  by_cases hneg : k.tmod n < 0
  · refine ⟨k.tmod n + n, by omega, by omega, ?_⟩
    go_enter Try.func18, Try.ntmps18
    go_wp2
    go_ret
    exact ⟨ret_int (by first | rfl | (rw [IntWalk.wrap64_in _ (by omega)])), rfl⟩
  · refine ⟨k.tmod n, by omega, by omega, ?_⟩
    go_enter Try.func18, Try.ntmps18
    go_wp2
    go_ret
    exact ⟨rfl, rfl⟩

set_option maxRecDepth 100000 in
theorem bad_ (a b c d e0 : Int) (A : Option Addr) (cap n : Nat) (w : World) (h : ¬ sndOk a b 7 c) :
    Calls Try.prog 5 #[.int .i64 a, .int .i64 b, .int .i64 c, .int .i64 d, .int .i64 e0, .slice A n cap] w fun e w' => e = .returned (.bool true) ∧ Below w.heap.size w w' := by
  go_enter Try.func5, Try.ntmps5
  go_wp2_with fail
  refine (new_no a b 7 c _ h).mono ?_
  rintro e w1 ⟨rfl, rfl⟩
  go_wp2_with fail
  refine (works_any _).mono ?_
  rintro e w1 ⟨rfl, hb1⟩
  go_wp2
  go_ret
  exact ⟨rfl, hb1⟩
set_option maxRecDepth 100000 in
theorem long_ (a b c d e0 : Int) (A : Option Addr) (cap n : Nat) (w : World) (hbig : 1073741824 < c ∨ (¬ 1073741824 < c ∧ 500 < n)) (h : sndOk a b 7 c) :
    Calls Try.prog 5 #[.int .i64 a, .int .i64 b, .int .i64 c, .int .i64 d, .int .i64 e0, .slice A n cap] w fun e w' => e = .returned (.bool true) ∧ Below w.heap.size w w' := by
  have hb : 1073741824 < c ∨ (¬ 1073741824 < c ∧ (500 : Int) < (n : Int)) := by omega
  clear hbig
  rcases hb with hb | ⟨hb, hb'⟩
  all_goals
    go_enter Try.func5, Try.ntmps5
    go_wp2_with fail
    refine (new_yes a b 7 c _ h).mono ?_
    rintro e w1 ⟨rfl, rfl⟩
    go_wp2_with fail
    refine (works_any _).mono ?_
    rintro e w1 ⟨rfl, hb1⟩
    go_wp2
    go_ret
    exact ⟨rfl, by (repeat (first | (with_reducible assumption) | (with_reducible exact Below.refl _ _) | ((with_reducible refine Below.setCell ?_ ?_ _); rotate_left; · (first | omega | (simp; done) | (simp; omega) | (simp at *; omega))) | ((with_reducible refine Below.alloc ?_ ?_ _); rotate_left; · (first | omega | (simp; done) | (simp; omega) | (simp at *; omega))) | (with_reducible refine Below.drew ?_) | (with_reducible refine below_drewN ?_ _) | ((refine Below.trans ?_ (Below.mono (by with_reducible assumption) ?_)); rotate_left; · (first | omega | (simp; done) | (simp; omega) | (simp at *; omega)))))⟩

/-- the sender and what has come, at a round's head. -/
def Here (a b nx : Int) (s : Snd) (h t : Int) : Prop := s.Ok ∧ s.win = a ∧ s.res = b ∧ s.ep = 7 ∧ s.base ≤ h ∧ h ≤ nx ∧ s.top ≤ nx ∧ 0 ≤ t ∧ s.since ≤ t
theorem here_send {a b nx : Int} {s : Snd} {h t : Int} (H : Here a b nx s h t) (hn : sendOk (t + b) nx) :
    Here a b nx (s.send (t + b) nx) h (t + b) ∧ s.head (t + b) = s.base ∧ s.base + s.many (t + b) nx ≤ nx ∧ (s.many (t + b) nx : Int) = max 0 (min nx (s.base + a) - s.base) ∧ (s.send (t + b) nx).top = nx ∧ (s.send (t + b) nx).base = s.base := by
  obtain ⟨h1, h2, h3, h4, h5, h6, h7, h8, h9⟩ := H
  obtain ⟨k1, k2, k3, k4, k5⟩ := send_ok s h1 (t + b) nx
  obtain ⟨q1, q2, q3, q4, q5⟩ := send_again s h1 (t + b) nx hn (by rw [h3]; omega)
  have ho := h1.2.2.1
  refine ⟨⟨k1, by rw [k3, h2], by rw [k4, h3], by rw [k5, h4], by rw [k2]; exact h5, h6, by rw [q4]; omega, by omega, q5⟩, q1, by omega, ?_, by rw [q4]; omega, k2⟩
  rw [q2, ← h2]; rfl

set_option maxRecDepth 100000 in
set_option maxHeartbeats 20000000 in
theorem walk (a b c d e0 : Int) (A : Option Addr) (cap : Nat) (L : List Int) (w : World) (hA : IntsAt .u8 w A L) (hL : ∀ x ∈ L, (Lit.int .u8 x).wf = true) :
    Calls Try.prog 5 #[.int .i64 a, .int .i64 b, .int .i64 c, .int .i64 d, .int .i64 e0, .slice A L.length cap] w fun e w' => e = .returned (.bool true) ∧ Below w.heap.size w w' := by
  by_cases hnew : sndOk a b 7 c
  rotate_left
  · exact bad_ a b c d e0 A cap L.length w hnew
  by_cases hbig : 1073741824 < c ∨ (¬ 1073741824 < c ∧ 500 < L.length)
  · exact long_ a b c d e0 A cap L.length w hbig hnew
  have hc1 : ¬ 1073741824 < c := by omega
  have hbi : ¬ (500 : Int) < (L.length : Int) := by omega
  obtain ⟨a1, a2, b1, b2, _, _, c1, _⟩ := id hnew
  have HA := Lib.hid hA
  have HF := Lib.hid hL
  have HNW := Lib.hid hnew
  clear hA hL hnew hbig
  obtain ⟨wn, hwn⟩ : ∃ wn : World, wn = w.alloc (.cells #[.int .i64 a, .int .i64 b, .int .i64 7, .int .i64 c, .int .i64 c, .int .i64 c, .int .i64 0] 47) := ⟨_, rfl⟩
  have h0 : One w (sndNew a b 7 c) wn := by rw [hwn]; exact ⟨Blk.new _ _ _, by (repeat (first | (with_reducible assumption) | (with_reducible exact Below.refl _ _) | ((with_reducible refine Below.setCell ?_ ?_ _); rotate_left; · (first | omega | (simp; done) | (simp; omega) | (simp at *; omega))) | ((with_reducible refine Below.alloc ?_ ?_ _); rotate_left; · (first | omega | (simp; done) | (simp; omega) | (simp at *; omega))) | (with_reducible refine Below.drew ?_) | (with_reducible refine below_drewN ?_ _) | ((refine Below.trans ?_ (Below.mono (by with_reducible assumption) ?_)); rotate_left; · (first | omega | (simp; done) | (simp; omega) | (simp at *; omega)))))⟩
  have H0 := Lib.hid h0
  obtain ⟨m1, m1a, m1b, hp1⟩ := pick_to d 301 wn (by omega) (by omega)
  obtain ⟨m2, m2a, m2b, hp2⟩ := pick_to e0 (c + m1 - c + 1) wn (by omega) (by omega)
  have HP1 := Lib.hid hp1
  have HP2 := Lib.hid hp2
  have HWN := Lib.hid hwn
  clear hp1 hp2 h0 hwn
  go_enter Try.func5, Try.ntmps5
  go_wp2_with fail
  refine (new_yes a b 7 c _ HNW.out).mono ?_
  rintro e w1 ⟨rfl, hw1⟩
  rw [← HWN.out] at hw1
  subst hw1
  clear HWN
  go_wp2_with fail
  refine HP1.out.mono ?_
  rintro e w1 ⟨rfl, hw1⟩
  subst hw1
  go_wp2_with fail
  refine HP2.out.mono ?_
  rintro e w1 ⟨rfl, hw1⟩
  subst hw1
  obtain ⟨wn, rfl⟩ : ∃ wz : World, wz = w1 := ⟨_, rfl⟩
  clear HP1 HP2
  obtain ⟨nx, hnx⟩ : ∃ nx, nx = c + m1 := ⟨_, rfl⟩
  have hh0 : Here a b nx (sndNew a b 7 c) (c + m2) 0 := ⟨new_ok HNW.out, rfl, rfl, rfl, by show c ≤ c + m2; omega, by omega, by show c ≤ nx; omega, by omega, by show (0 : Int) ≤ 0; omega⟩
  have HH0 := Lib.hid hh0
  have hnB : nx ≤ 1073742124 := by omega
  have hn0 : 0 ≤ nx := by omega
  rw [← hnx]
  have HNX := Lib.hid (show nx - c ≤ 300 by omega)
  clear hnx hh0
  go_wp2_with fail
  go_loopg [16, 17, 18] L.length (fun gm has now i wr => ∃ (k : Nat) (s : Snd) (h t : Int), k ≤ L.length ∧ gm = L.length - k ∧ i = .int .i64 k ∧ has = .int .i64 h ∧ now = .int .i64 t ∧ t ≤ (k : Int) * 1048576 ∧ Here a b nx s h t ∧ c ≤ s.base ∧ One w s wr)
  case atStart => exact ⟨0, _, _, _, Nat.zero_le _, rfl, rfl, rfl, rfl, by omega, HH0.out, Int.le_refl _, H0.out⟩
  case round =>
    clear H0 HH0
    obtain ⟨k, s, h, t, hk, rfl, rfl, rfl, rfl, htk, hh, hcb, hB⟩ := hrel
    obtain ⟨wz, rfl⟩ : ∃ wz : World, wz = wr := ⟨_, rfl⟩
    have HB := Lib.hid hB
    have HH := Lib.hid hh
    have hwz := hB.2.size
    have ht0 : 0 ≤ t := hh.2.2.2.2.2.2.2.1
    have hhn : h ≤ nx := hh.2.2.2.2.2.1
    clear hB hh
    by_cases hlt : k < L.length
    · obtain ⟨bb, off, rfl, hb, hS⟩ := HA.out (by omega)
      obtain ⟨x, hx⟩ : ∃ x, x = L.getD k 0 := ⟨_, rfl⟩
      have c0 := hS k hlt
      have hwf := HF.out (L.getD k 0) (by rw [List.getD_eq_getElem?_getD, List.getElem?_eq_getElem hlt]; simp)
      rw [← hx] at c0 hwf
      have hx0 : 0 ≤ x ∧ x ≤ 255 := by
        simp [Lit.wf, IntKind.min, IntKind.max, IntKind.signed, IntKind.bits] at hwf
        exact ⟨by omega, by omega⟩
      obtain ⟨hx1, hx2⟩ := hx0
      have x0 := (HB.out.2.cell (p := ⟨bb, off + k, none⟩) hb).trans c0
      have hki : (k : Int) < (L.length : Int) := by omega
      have hk0 : (0 : Int) ≤ (k : Int) := by omega
      have hson : sendOk (t + b) nx := ⟨by omega, by omega, by omega⟩
      obtain ⟨r1, r2, r3, r4, r5, r6⟩ := here_send HH.out hson
      have HR := Lib.hid (And.intro r1 (And.intro r2 (And.intro r3 (And.intro r5 r6))))
      have HOK := Lib.hid HH.out.1
      have hbb : bb < wz.heap.size := by omega
      clear hx c0 hS hwf r1 r2 r3 r4 r5 r6 hson
      go_wp2_with fail
      refine (send_any w.heap.size s (t + b) nx _ HB.out.1 HOK.out ⟨by omega, by omega⟩).mono ?_
      rintro e w2 hsb
      obtain ⟨A1, ca1, rfl, hA1, _, hge1, hS2, hG2⟩ := send_to hsb
      have HB2 := Lib.hid (HB.out.next hS2 hG2)
      have HA1 := Lib.hid hA1
      have hbw : bb ≠ w.heap.size := by omega
      have x0' := (World.cell?_of_block (a := ⟨bb, off + k, none⟩) (hG2.block bb hbb (by simpa using hbw))).trans x0
      have hz2 := hG2.size
      have hmn : s.base + (s.many (t + b) nx : Int) ≤ nx := HR.out.2.2.1
      have hh2 : s.head (t + b) = s.base := HR.out.2.1
      have HLG := Lib.hid (fun j (hj : j < s.many (t + b) nx) => (show (s.list (t + b) nx).getD j 0 = s.base + j by unfold Snd.list; rw [upList_get _ _ _ hj, hh2]))
      have HLL := Lib.hid (show (s.list (t + b) nx).length = s.many (t + b) nx from upList_len _ _)
      obtain ⟨n, hn⟩ : ∃ n, n = s.many (t + b) nx := ⟨_, rfl⟩
      rw [← hn] at hmn HLG HLL ⊢
      have hhb : s.base ≤ h := HH.out.2.2.2.2.1
      obtain ⟨bs, hbs⟩ : ∃ bs, bs = s.base := ⟨_, rfl⟩
      rw [← hbs] at hmn HLG hhb hcb
      have HBS := Lib.hid hbs
      clear hA1 hge1 hS2 hG2 hsb x0 hh2 hn hbs
      go_wp2_with fail
      go_loopg [16, 20] n (fun gm has i wr => ∃ (j : Nat) (h' : Int), j ≤ n ∧ gm = n - j ∧ i = .int .i64 j ∧ has = .int .i64 h' ∧ h ≤ h' ∧ h' ≤ nx ∧ w2 = wr)
      case atStart => exact ⟨0, h, Nat.zero_le _, rfl, rfl, rfl, Int.le_refl _, hhn, rfl⟩
      case round =>
        obtain ⟨j, h', hj, rfl, rfl, rfl, hj1, hj2, hw2⟩ := hrel
        subst hw2
        by_cases hjl : j < n
        · have hji : (j : Int) < (n : Int) := by omega
          have hj0 : (0 : Int) ≤ (j : Int) := by omega
          obtain ⟨bu, bo, rfl, hbu, hSu⟩ := HA1.out (by rw [HLL.out]; omega)
          have u0 := hSu j (by rw [HLL.out]; exact hjl)
          rw [HLG.out j hjl] at u0
          clear hSu
          by_cases heq : bs + (j : Int) = h'
          · have n1 : (bs + (j : Int) == h') = true := by rw [beq_iff_eq]; exact heq
            go_wp2_with fail
            all_goals
              go_roundg (n - (j + 1))
              case measure => omega
              case rel => first | exact ⟨j + 1, h' + 1, by omega, rfl, by go_num, rfl, by omega, by omega, rfl⟩ | exact ⟨j + 1, h', by omega, rfl, by go_num, rfl, by omega, by omega, rfl⟩
          · have n1 : (bs + (j : Int) == h') = false := by rw [beq_eq_false_iff_ne]; exact heq
            go_wp2_with fail
            go_roundg (n - (j + 1))
            case measure => omega
            case rel => exact ⟨j + 1, h', by omega, rfl, by go_num, rfl, by omega, by omega, rfl⟩
        · obtain rfl : j = n := by omega
          have hji : ¬ (j : Int) < (j : Int) := by omega
          clear hj hjl
          go_upto_if 108 with fail
          go_cut [] (fun wx => ∃ s', Here a b nx s' h' (t + b) ∧ c ≤ s'.base ∧ One w s' wx)
          case first =>
            have HR1 := Lib.hid (show Here a b nx (s.send (t + b) nx) h' (t + b) by
              obtain ⟨q1, q2, q3, q4, q5, q6, q7, q8, q9⟩ := HR.out.1
              exact ⟨q1, q2, q3, q4, by omega, hj2, q7, q8, q9⟩)
            have HCB := Lib.hid (show c ≤ (s.send (t + b) nx).base by have h1 := HR.out.2.2.2.2; have h2 := HBS.out; omega)
            by_cases hx128 : x < 128
            · go_wp2_with fail
              refine (ack_any w.heap.size (s.send (t + b) nx) (t + b) 7 h' _ HB2.out.1).mono ?_
              rintro e w3 ⟨rfl, hS3, hG3⟩
              have HB3 := Lib.hid (HB2.out.next hS3 hG3)
              clear hS3 hG3
              go_wp2_with fail
              go_meet
              refine ⟨_, ?_, ?_, HB3.out⟩
              · obtain ⟨q1, q2, q3, q4, q5, q6, q7, q8, q9⟩ := HR1.out
                obtain ⟨k1, k2, k3, k4⟩ := ack_ok _ q1 (t + b) 7 h'
                obtain ⟨p1, p2, p3, p4⟩ := ack_some _ (t + b) 7 h' q5
                exact ⟨k1, by rw [k2, q2], by rw [k3, q3], by rw [k4, q4], p2, q6, by rw [p3]; exact q7, q8, by omega⟩
              · have := (ack_some _ (t + b) 7 h' HR1.out.2.2.2.2.1).1
                have := HCB.out
                omega
            · have hx' : decide (x < 128) = false := decide_eq_false hx128
              go_wp2_with fail
              go_meet
              exact ⟨_, HR1.out, HCB.out, HB2.out⟩
          case rest =>
            obtain ⟨s', hh', hcb', hB'⟩ := hcut
            obtain ⟨wy, rfl⟩ : ∃ wy : World, wy = wc := ⟨_, rfl⟩
            have HB' := Lib.hid hB'
            have HH' := Lib.hid hh'
            have hbh : ¬ h' < s'.base := by have := hh'.2.2.2.2.1; omega
            have hnh : ¬ nx < h' := by omega
            clear hh' hB' x0'
            go_wp2_with fail
            refine (base_to _ _ s'.base _ HB'.out.1 rfl).mono ?_
            rintro e w3 ⟨rfl, hw3⟩
            subst hw3
            go_wp2_with fail
            go_roundg (L.length - (k + 1))
            case measure => omega
            case rel => exact ⟨k + 1, s', h', t + b, by omega, rfl, by go_num, rfl, rfl, by omega, HH'.out, hcb', HB'.out⟩
    · obtain rfl : k = L.length := by omega
      have hki : ¬ (L.length : Int) < (L.length : Int) := by omega
      have hbn : s.base ≤ h := HH.out.2.2.2.2.1
      obtain ⟨r, hr1, hr2⟩ := rounds_enough (left := nx - s.base) (win := a) (by omega) a1
      have hrB : (r : Int) ≤ 316 := by
        rw [← hr1]
        have := Int.ediv_le_self a (show 0 ≤ nx - s.base + a - 1 by omega)
        have := HNX.out
        omega
      have hrt : (nx - s.base + a - 1).tdiv a = (r : Int) := by rw [Int.tdiv_eq_ediv_of_nonneg (by omega)]; exact hr1
      have HR1 := Lib.hid (And.intro hr1 hrt)
      have HR2 := Lib.hid hr2
      obtain ⟨lf, hlf⟩ : ∃ lf, lf = nx - s.base := ⟨_, rfl⟩
      have hlfB : 0 ≤ lf ∧ lf ≤ 300 := by have := HNX.out; omega
      obtain ⟨hlf0, hlf1⟩ := hlfB
      rw [← hlf] at HR1 HR2
      have HLF := Lib.hid hlf
      clear hr1 hr2 hrt hlf
      go_wp2_with fail
      refine (base_to _ _ s.base _ HB.out.1 rfl).mono ?_
      rintro e w3 ⟨rfl, hw3⟩
      subst hw3
      obtain ⟨wz, rfl⟩ : ∃ wq : World, wq = w3 := ⟨_, rfl⟩
      have hsub : nx - s.base = lf := HLF.out.symm
      go_wp2_with fail
      clear hsub
      go_loopg [16, 17, 22] (r + 1) (fun gm has now i wr => ∃ (m : Nat) (s : Snd) (h t : Int), m ≤ r + 1 ∧ m = gm ∧ i = .int .i64 ((r : Int) + 1 - m) ∧ has = .int .i64 h ∧ now = .int .i64 t ∧ t ≤ (500 + ((r : Int) + 1 - m)) * 1048576 ∧ Here a b nx s h t ∧ 0 ≤ s.base ∧ One w s wr ∧ ((m = 0 ∧ nx = h ∧ s.base = h) ∨ (0 < m ∧ nx - s.base ≤ ((m - 1 : Nat) : Int) * a)))
      case atStart =>
        refine ⟨r + 1, s, h, t, Nat.le_refl _, rfl, ?_, rfl, rfl, by omega, HH.out, by omega, HB.out, .inr ⟨by omega, ?_⟩⟩
        · exact congrArg _ (by omega)
        · rw [show r + 1 - 1 = r by omega, ← HLF.out]; exact HR2.out
      case round =>
        clear HB HH HLF hbn htk ht0 hhn hcb hlt
        obtain ⟨m, s, h, t, hm, rfl, rfl, rfl, rfl, htk, hh, hcb, hB, hleft⟩ := hrel
        obtain ⟨wz, rfl⟩ : ∃ wz : World, wz = wr := ⟨_, rfl⟩
        have HB := Lib.hid hB
        have HH := Lib.hid hh
        have HLE := Lib.hid hleft
        have hwz := hB.2.size
        have ht0 : 0 ≤ t := hh.2.2.2.2.2.2.2.1
        have hhn : h ≤ nx := hh.2.2.2.2.2.1
        have hdiv := HR1.out.1
        have htdv := HR1.out.2
        clear hB hh hleft
        by_cases hm0 : 0 < m
        · have hki : (r : Int) + 1 - (m : Int) < 1 + (r : Int) := by omega
          have hson : sendOk (t + b) nx := ⟨by omega, by omega, by omega⟩
          obtain ⟨r1, r2, r3, r4, r5, r6⟩ := here_send HH.out hson
          have HR := Lib.hid (And.intro r1 (And.intro r2 (And.intro r3 (And.intro r4 (And.intro r5 r6)))))
          have HOK := Lib.hid HH.out.1
          clear r1 r2 r3 r4 r5 r6 hson
          go_wp2_with fail
          refine (send_any w.heap.size s (t + b) nx _ HB.out.1 HOK.out ⟨by omega, by omega⟩).mono ?_
          rintro e w2 hsb
          obtain ⟨A1, ca1, rfl, hA1, _, hge1, hS2, hG2⟩ := send_to hsb
          have HB2 := Lib.hid (HB.out.next hS2 hG2)
          have HA1 := Lib.hid hA1
          have hz2 := hG2.size
          have hmn : s.base + (s.many (t + b) nx : Int) ≤ nx := HR.out.2.2.1
          have hmm : (s.many (t + b) nx : Int) = max 0 (min nx (s.base + a) - s.base) := HR.out.2.2.2.1
          have hh2 : s.head (t + b) = s.base := HR.out.2.1
          have HLG := Lib.hid (fun j (hj : j < s.many (t + b) nx) => (show (s.list (t + b) nx).getD j 0 = s.base + j by unfold Snd.list; rw [upList_get _ _ _ hj, hh2]))
          have HLL := Lib.hid (show (s.list (t + b) nx).length = s.many (t + b) nx from upList_len _ _)
          obtain ⟨n, hn⟩ : ∃ n, n = s.many (t + b) nx := ⟨_, rfl⟩
          rw [← hn] at hmn hmm HLG HLL ⊢
          have hhb : s.base ≤ h := HH.out.2.2.2.2.1
          obtain ⟨bs, hbs⟩ : ∃ bs, bs = s.base := ⟨_, rfl⟩
          rw [← hbs] at hmn hmm HLG hhb hcb
          have HBS := Lib.hid hbs
          have HMM := Lib.hid hmm
          clear hA1 hge1 hS2 hG2 hsb hh2 hn hbs hmm hdiv htdv
          go_wp2_with fail
          go_loopg [16, 24] n (fun gm has i wr => ∃ (j : Nat), j ≤ n ∧ gm = n - j ∧ i = .int .i64 j ∧ has = .int .i64 (waits h bs j) ∧ w2 = wr)
          case atStart => exact ⟨0, Nat.zero_le _, rfl, rfl, by rw [waits_zero hhb], rfl⟩
          case round =>
            obtain ⟨j, hj, rfl, rfl, rfl, hw2⟩ := hrel
            subst hw2
            have hwb : bs ≤ waits h bs j ∧ waits h bs j ≤ nx := by unfold waits; omega
            obtain ⟨hwb1, hwb2⟩ := hwb
            by_cases hjl : j < n
            · have hji : (j : Int) < (n : Int) := by omega
              have hj0 : (0 : Int) ≤ (j : Int) := by omega
              obtain ⟨bu, bo, rfl, hbu, hSu⟩ := HA1.out (by rw [HLL.out]; omega)
              have u0 := hSu j (by rw [HLL.out]; exact hjl)
              rw [HLG.out j hjl] at u0
              have hy := @waits_yes h bs j
              have hno := @waits_no h bs j
              obtain ⟨y, hyy⟩ : ∃ y, y = waits h bs j := ⟨_, rfl⟩
              rw [← hyy] at hy hno hwb1 hwb2 ⊢
              have HY := Lib.hid hy
              have HNO := Lib.hid hno
              clear hSu hy hno hyy
              by_cases heq : bs + (j : Int) = y
              · have n1 : (bs + (j : Int) == y) = true := by rw [beq_iff_eq]; exact heq
                have HE := Lib.hid (HY.out heq)
                clear heq
                go_wp2_with fail
                go_roundg (n - (j + 1))
                case measure => omega
                case rel => exact ⟨j + 1, by omega, rfl, by go_num, by rw [← HE.out], rfl⟩
              · have n1 : (bs + (j : Int) == y) = false := by rw [beq_eq_false_iff_ne]; exact heq
                have HE := Lib.hid (HNO.out heq)
                clear heq
                go_wp2_with fail
                go_roundg (n - (j + 1))
                case measure => omega
                case rel => exact ⟨j + 1, by omega, rfl, by go_num, by rw [← HE.out], rfl⟩
            · obtain rfl : j = n := by omega
              have hji : ¬ (j : Int) < (j : Int) := by omega
              have hwm : min nx (bs + a) ≤ waits h bs j := by have := HMM.out; unfold waits; omega
              obtain ⟨y, hyy⟩ : ∃ y, y = waits h bs j := ⟨_, rfl⟩
              rw [← hyy] at hwb1 hwb2 hwm ⊢
              have HWM := Lib.hid hwm
              clear hj hjl hwm hyy
              go_wp2_with fail
              refine (ack_any w.heap.size (s.send (t + b) nx) (t + b) 7 y _ HB2.out.1).mono ?_
              rintro e w3 ⟨rfl, hS3, hG3⟩
              have HB3 := Lib.hid (HB2.out.next hS3 hG3)
              obtain ⟨q1, q2, q3, q4, q5, q6, q7, q8, q9⟩ := HR.out.1
              obtain ⟨k1, k2, k3, k4⟩ := ack_ok _ q1 (t + b) 7 y
              have hsb : (s.send (t + b) nx).base = bs := by rw [HR.out.2.2.2.2.2, HBS.out]
              have hst : (s.send (t + b) nx).top = nx := HR.out.2.2.2.2.1
              obtain ⟨p1, p2, p3⟩ := ack_all (s.send (t + b) nx) (t + b) 7 y (by omega) (by omega) q4.symm (by rw [hsb]; exact hwb1) (by rw [hst]; exact hwb2)
              have HN := Lib.hid (show Here a b nx ((s.send (t + b) nx).ack (t + b) 7 y) y (t + b) from ⟨k1, by rw [k2, q2], by rw [k3, q3], by rw [k4, q4], by rw [p1]; exact Int.le_refl _, hwb2, by rw [p2]; exact q7, q8, by omega⟩)
              have HP1 := Lib.hid p1
              clear hS3 hG3 q1 q2 q3 q4 q5 q6 q7 q8 q9 k1 k2 k3 k4 hsb hst p1 p2 p3
              go_wp2_with fail
              go_roundg (m - 1)
              case measure => omega
              case rel =>
                refine ⟨m - 1, _, y, t + b, by omega, rfl, congrArg _ (by omega), rfl, rfl, by omega, HN.out, by rw [HP1.out]; omega, HB3.out, ?_⟩
                have hl := HLE.out
                rw [← HBS.out] at hl
                have hw := HWM.out
                rcases hl with ⟨z, _⟩ | ⟨_, hl⟩
                · omega
                · by_cases hm1 : m = 1
                  · subst hm1
                    simp at hl
                    exact .inl ⟨rfl, by omega, HP1.out⟩
                  · refine .inr ⟨by omega, ?_⟩
                    rw [HP1.out]
                    have e1 : m - 1 = (m - 1 - 1) + 1 := by omega
                    rw [e1] at hl
                    exact left_step hl hw (by omega)
        · obtain rfl : m = 0 := by omega
          have hki : ¬ (r : Int) + 1 - ((0 : Nat) : Int) < 1 + (r : Int) := by omega
          have hend : nx = h ∧ s.base = h := by
            rcases HLE.out with ⟨_, h1, h2⟩ | ⟨z, _⟩
            · exact ⟨h1, h2⟩
            · omega
          obtain ⟨he1, he2⟩ := hend
          have HE1 := Lib.hid he1
          have n1 : (h == nx) = true := by rw [beq_iff_eq, he1]
          have HE2 := Lib.hid (show s.base = nx by omega)
          clear he1 he2
          go_wp2_with fail
          refine (base_to _ _ nx _ HB.out.1 HE2.out).mono ?_
          rintro e w3 ⟨rfl, hw3⟩
          subst hw3
          go_wp2_with fail
          refine (works_any _).mono ?_
          rintro e w4 ⟨rfl, hb4⟩
          go_wp2_with fail
          go_ret
          exact ⟨rfl, (HB.out.below hb4).2⟩

theorem own : ownKnob Try.prog.godebug = none := by kernel_rfl

set_option maxRecDepth 100000 in
theorem lifted (os : Os) (started : os.Started) (H : Type) (enc : TypeId × Value → H) :
    ReturnsInHanded {} Try.checked os 5 .any (Rows.senderComesSpec.pre6 enc Try.prog Try.f5 Rows.senderComesRow.domain false) (Rows.senderComesSpec.post enc Try.prog Try.f5 false true false false) := by
  refine law_lifted (C := Try.checked) (tb := 4) own started (by kernel_rfl) Try.func5
    (ChangeSpec.witness6 (enc := enc) (C := Try.checked) false ⟨#[], #[.int .i64 0, .int .i64 0, .int .i64 0, .int .i64 0, .int .i64 0, .slice none 0 0], []⟩ 8 (by kernel_rfl) (by kernel_rfl) (by kernel_rfl) (by kernel_rfl))
    rfl (by kernel_rfl) (by kernel_rfl) (by kernel_rfl) Try.underlying4 (fun ds h => ?_) ?_
  · rw [show Try.f5.params = #[3, 3, 3, 3, 3, 42] from Try.params5] at h
    match ds, h with
    | [_, _, _, _, _, _], _ => rfl
  · intro W base args ds before hval hA hlt hsz
    rw [show Try.f5.params = #[3, 3, 3, 3, 3, 42] from Try.params5] at hA hval hsz
    obtain ⟨v0, vs0, d0, ds0, p0, q0, hargs, rfl, rfl, h0, r0⟩ := trodAll_cons hA
    obtain ⟨v1, vs1, d1, ds1, p1, q1, rfl, rfl, rfl, h1, r1⟩ := trodAll_cons r0
    obtain ⟨v2, vs2, d2, ds2, p2, q2, rfl, rfl, rfl, h2, r2⟩ := trodAll_cons r1
    obtain ⟨v3, vs3, d3, ds3, p3, q3, rfl, rfl, rfl, h3, r3⟩ := trodAll_cons r2
    obtain ⟨v4, vs4, d4, ds4, p4, q4, rfl, rfl, rfl, h4, r4⟩ := trodAll_cons r3
    obtain ⟨v5, vs5, d5, ds5, p5, q5, rfl, rfl, rfl, h5, r5⟩ := trodAll_cons r4
    obtain ⟨rfl, rfl, rfl⟩ := trodAll_nil r5
    obtain rfl : args = #[v0, v1, v2, v3, v4, v5] := by cases args; simp_all
    obtain ⟨a, rfl, _, _, _⟩ := open_int Try.underlying3 (hval 0 3 v0 rfl rfl) h0
    obtain ⟨b, rfl, _, _, _⟩ := open_int Try.underlying3 (hval 1 3 v1 rfl rfl) h1
    obtain ⟨c, rfl, _, _, _⟩ := open_int Try.underlying3 (hval 2 3 v2 rfl rfl) h2
    obtain ⟨d, rfl, _, _, _⟩ := open_int Try.underlying3 (hval 3 3 v3 rfl rfl) h3
    obtain ⟨e0, rfl, _, _, _⟩ := open_int Try.underlying3 (hval 4 3 v4 rfl rfl) h4
    obtain ⟨A, cap, L, rfl, hcap, hc16, hS, hF⟩ := open_ints_at (t := 42) (e := 5) (k := .u8) (n := 1) Try.underlying42 Try.underlying5 (by kernel_rfl) (by kernel_rfl) (hval 5 _ v5 rfl rfl) h5 hsz (j := 5) rfl rfl
    exact walk a b c d e0 A cap L W hS hF

theorem proved : Rows.SenderComesSaid :=
  OpenClaim.holds_of_wide 5 Try.f5 rfl rfl rfl rfl rfl rfl rfl ⟨rfl, rfl, rfl, rfl, rfl⟩ rfl rfl rfl rfl rfl (by kernel_rfl) Try.func5 (by kernel_rfl)
    (of_decide_eq_true (by kernel_rfl)) (by unfold Func.isWrapper; rw [if_neg (of_decide_eq_false (by kernel_rfl))]; exact ⟨rfl, rfl⟩)
    (fun os started H enc _ => lifted os started H enc)
#print axioms proved
end SenderComes
end Go.Proofs.Ytihgcdggffidlaa
