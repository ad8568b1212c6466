/-
  What is proved here: where a key stands in a page, or would (chapter 15). Conditions: none.
-/
import Derived.Test.YtmmikolcipcldaaTreeMem
namespace Go.Proofs.Ytmmikolcipcldaa
open Go.RowKit Go.Deep
attribute [local go_sem high] eq_key

structure PB (w : World) (p : Nat) (P : Pg) (b : Nat) (k : Ky) (w' : World) : Prop where
  page : PageAt w' p P
  box : Blk w' b 24 k.cells
  bel : Below w.heap.size w w'
section
variable {w wa wb : World} {p : Nat} {P : Pg} {b : Nat} {k : Ky}
theorem PB.on (h : PB w p P b k wa) (hb : Below wa.heap.size wa wb) : PB w p P b k wb := ⟨h.page.on hb, h.box.below hb h.box.lt, h.bel.trans (hb.mono h.bel.size)⟩
theorem PB.drewN (h : PB w p P b k wa) (n : Nat) : PB w p P b k (wa.drewN n) := ⟨h.page.drewN n, h.box, below_drewN h.bel n⟩
theorem PB.boxes (h : PB w p P b k wa) : wa.cell? ⟨b, 0, none⟩ = some (.int .i64 k.t) ∧ wa.cell? ⟨b, 1, none⟩ = some (.int .i64 k.s) := ⟨h.box.cell 0, h.box.cell 1⟩
theorem PB.keys (h : PB w p P b k wa) : wa.cell? ⟨p, 0, none⟩ = some (sl P.gk P.ks.length P.ck) := h.page.blk.cell 0
end

set_option maxRecDepth 100000 in
set_option maxHeartbeats 1000000 in
theorem place_any (p : Nat) (P : Pg) (k : Ky) (w : World) (hP : PageAt w p P) (hlen : P.ks.length ≤ 4611686018427387904) :
    Calls Try.prog 36 #[.pointer (some ⟨p, 0, none⟩), .agg k.cells] w fun e w' => e = .returned (.tuple #[.int .i64 (place P.ks k : Nat), .bool (hit P.ks k)]) ∧ Below w.heap.size w w' := by
  obtain ⟨kt, kk⟩ := k
  have HB := Lib.hid (show PB w p P w.heap.size ⟨kt, kk⟩ (w.alloc (.cells #[.int .i64 kt, .int .i64 kk] 24)) from ⟨hP.on ((Below.refl _ _).alloc (Nat.le_refl _) _), Blk.new _ _ _, by (repeat (first | (with_reducible assumption) | (with_reducible exact Below.refl _ _) | ((with_reducible refine Below.setCell ?_ ?_ _); rotate_left; · (first | omega | (simp; done) | (simp; omega) | (simp at *; omega))) | ((with_reducible refine Below.alloc ?_ ?_ _); rotate_left; · (first | omega | (simp; done) | (simp; omega) | (simp at *; omega))) | (with_reducible refine Below.drew ?_) | (with_reducible refine below_drewN ?_ _) | ((refine Below.trans ?_ (Below.mono (by with_reducible assumption) ?_)); rotate_left; · (first | omega | (simp; done) | (simp; omega) | (simp at *; omega)))))⟩)
  clear hP
  have HBA := Lib.hid (fun x => below_any x (⟨kt, kk⟩ : Ky))
  show Calls Try.prog 36 #[.pointer (some ⟨p, 0, none⟩), .agg #[.int .i64 kt, .int .i64 kk]] w _
  go_enter Try.func36, Try.ntmps36
  go_wp2_with fail
  go_loopg [6] P.ks.length (fun g i wr => ∃ x : Nat, x ≤ P.ks.length ∧ g = P.ks.length - x ∧ i = .int .i64 x ∧ (∀ j, j < x → Go.Proofs.Ytmmikolcipcldaa.bel (P.ks.getD j k0) ⟨kt, kk⟩ = true) ∧ PB w p P w.heap.size ⟨kt, kk⟩ wr)
  case atStart => exact ⟨0, Nat.zero_le _, rfl, rfl, fun j hj => absurd hj (by omega), HB.out⟩
  case round =>
    clear HB
    obtain ⟨x, hx, rfl, rfl, hup, hB⟩ := hrel
    have HU := Lib.hid hup
    have HB := Lib.hid hB
    clear hup hB
    by_cases hlt : x < P.ks.length
    · have hki : (x : Int) < (P.ks.length : Int) := by omega
      have hk0 : (0 : Int) ≤ (x : Int) := by omega
      obtain ⟨q, hq⟩ : ∃ q, q = P.ks.getD x k0 := ⟨_, rfl⟩
      have HS := Lib.hid (show ∀ w', PB w p P w.heap.size ⟨kt, kk⟩ w' → (w'.cell? ⟨p, 0, none⟩ = some (.slice (some ⟨P.gk, 0, none⟩) P.ks.length P.ck) ∧ w'.cell? ⟨P.gk, x * 2, none⟩ = some (.int .i64 q.t) ∧ w'.cell? ⟨P.gk, x * 2 + 1, none⟩ = some (.int .i64 q.s) ∧ w'.cell? ⟨w.heap.size, 0, none⟩ = some (.int .i64 kt) ∧ w'.cell? ⟨w.heap.size, 1, none⟩ = some (.int .i64 kk) ∧ PB w p P w.heap.size ⟨kt, kk⟩ w') from fun w' h => ⟨by rw [h.keys, sl_pos _ _ _ (h.page.keys.pos (by omega))], by rw [hq]; exact (h.page.key hlt).1, by rw [hq]; exact (h.page.key hlt).2, h.boxes.1, h.boxes.2, h⟩)
      have HQ := Lib.hid hq
      clear hq
      obtain ⟨b, hb⟩ : ∃ b, b = Go.Proofs.Ytmmikolcipcldaa.bel q ⟨kt, kk⟩ := ⟨_, rfl⟩
      have HBQ := Lib.hid (show ∀ W, Calls Try.prog 51 #[.agg #[.int .i64 q.t, .int .i64 q.s], .agg #[.int .i64 kt, .int .i64 kk]] W fun e w' => e = .returned (.bool b) ∧ Below W.heap.size W w' from fun W => (HBA.out q W).mono (fun e w' h => ⟨by rw [h.1, hb], h.2⟩))
      have HBV := Lib.hid hb
      clear hb
      go_upto_region 2 with fail
      go_cut [24] (fun s wx => s = .bool b ∧ PB w p P w.heap.size ⟨kt, kk⟩ wx)
      case first =>
       as_aux_lemma =>
        go_region_held3 (fun w' => w'.cell? ⟨p, 0, none⟩ = some (.slice (some ⟨P.gk, 0, none⟩) P.ks.length P.ck) ∧ w'.cell? ⟨P.gk, x * 2, none⟩ = some (.int .i64 q.t) ∧ w'.cell? ⟨P.gk, x * 2 + 1, none⟩ = some (.int .i64 q.s) ∧ w'.cell? ⟨w.heap.size, 0, none⟩ = some (.int .i64 kt) ∧ w'.cell? ⟨w.heap.size, 1, none⟩ = some (.int .i64 kk) ∧ PB w p P w.heap.size ⟨kt, kk⟩ w')
          (first
            | exact HS.out _ (HB.out.drewN 1)
            | exact HS.out _ (PB.on (HB.out.drewN 1) hb)
            | exact HS.out _ (PB.on (by assumption) hb)
            | (go_split_ands; exact HS.out _ (PB.on (by assumption) hb)))
          (first | (go_at_call 51; (with_reducible refine (HBQ.out _).mono ?_); rintro e w' ⟨rfl, hb⟩))
        go_wp2_with fail
        go_meet
        (try go_split_ands)
        exact ⟨rfl, by assumption⟩
      obtain ⟨rfl, hB⟩ := hcut
      clear HB
      have HB := Lib.hid hB
      clear hB
      cases b
      · have hpl : place P.ks ⟨kt, kk⟩ = x := place_eq hx HU.out (fun _ => by rw [← HQ.out, ← HBV.out])
        have HPL := Lib.hid hpl
        have HHT := Lib.hid (show hit P.ks ⟨kt, kk⟩ = (decide (q.t = kt) && decide (q.s = kk)) by unfold hit; rw [hpl, ← HQ.out, ← Bool.decide_and, decide_eq_decide]; exact ⟨fun h => by rw [h.2]; exact ⟨rfl, rfl⟩, fun h => ⟨hlt, by cases q; simp_all⟩⟩)
        clear hpl
        go_wp2_with fail
        go_region_held3 (fun w' => w'.cell? ⟨p, 0, none⟩ = some (.slice (some ⟨P.gk, 0, none⟩) P.ks.length P.ck) ∧ w'.cell? ⟨P.gk, x * 2, none⟩ = some (.int .i64 q.t) ∧ w'.cell? ⟨P.gk, x * 2 + 1, none⟩ = some (.int .i64 q.s) ∧ w'.cell? ⟨w.heap.size, 0, none⟩ = some (.int .i64 kt) ∧ w'.cell? ⟨w.heap.size, 1, none⟩ = some (.int .i64 kk) ∧ PB w p P w.heap.size ⟨kt, kk⟩ w')
          (first
            | exact HS.out _ (HB.out.drewN 1)
            | (go_split_ands; exact HS.out _ (by assumption)))
          (fail)
        go_wp2_with fail
        go_ret2
        refine ⟨?_, (HB.out.drewN 1).bel⟩
        rw [HPL.out, HHT.out]
        rfl
      · go_wp2_with fail
        go_roundg (P.ks.length - (x + 1))
        case measure => omega
        case rel =>
          refine ⟨x + 1, by omega, rfl, by go_num, fun j hj => ?_, HB.out⟩
          by_cases e : j = x
          · rw [e, ← HQ.out, ← HBV.out]
          · exact HU.out j (by omega)
    · obtain rfl : x = P.ks.length := by omega
      have hki : ¬ (P.ks.length : Int) < (P.ks.length : Int) := by omega
      obtain ⟨A, hA, _, _⟩ := sl_form P.gk P.ks.length P.ck HB.out.page.keys.1
      have HS := Lib.hid (show ∀ w', PB w p P w.heap.size ⟨kt, kk⟩ w' → (w'.cell? ⟨p, 0, none⟩ = some (.slice A P.ks.length P.ck) ∧ PB w p P w.heap.size ⟨kt, kk⟩ w') from fun w' h => ⟨by rw [h.keys, hA], h⟩)
      have HPL := Lib.hid (place_eq (k := ⟨kt, kk⟩) (Nat.le_refl _) HU.out (fun h => absurd h (by omega)))
      have HHT := Lib.hid (show hit P.ks ⟨kt, kk⟩ = false by unfold hit; rw [HPL.out, decide_eq_false_iff_not]; exact fun h => absurd h.1 (by omega))
      clear hA
      obtain ⟨c0, hB⟩ := HS.out _ HB.out
      have hbw := hB.bel
      clear hB
      go_wp2_with fail
      go_quiet (fail)
      go_wp2_with fail
      go_quiet (fail)
      go_wp2_with fail
      go_ret2
      refine ⟨?_, by (repeat (first | (with_reducible assumption) | (with_reducible exact Below.refl _ _) | ((with_reducible refine Below.setCell ?_ ?_ _); rotate_left; · (first | omega | (simp; done) | (simp; omega) | (simp at *; omega))) | ((with_reducible refine Below.alloc ?_ ?_ _); rotate_left; · (first | omega | (simp; done) | (simp; omega) | (simp at *; omega))) | (with_reducible refine Below.drew ?_) | (with_reducible refine below_drewN ?_ _) | ((refine Below.trans ?_ (Below.mono (by with_reducible assumption) ?_)); rotate_left; · (first | omega | (simp; done) | (simp; omega) | (simp at *; omega)))))⟩
      rw [HPL.out, HHT.out]
      rfl
end Go.Proofs.Ytmmikolcipcldaa
