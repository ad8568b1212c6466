/-
  What is proved here: a tree made of pages that are given by number (tree.Of). Conditions: each theorem's own.
-/
import Derived.Test.YtmmikolcipcldaaTreeMade
import Derived.Test.YtmmikolcipcldaaTreePage
namespace Go.Proofs.Ytmmikolcipcldaa
open Go.RowKit Go.Deep

theorem of_empty {d : Nat} (A : Option Addr) (c : Nat) (w : World) (hd2 : 2 ≤ d) (hd : d ≤ 16) :
    Calls Try.prog 25 #[.int .i64 d, .slice A 0 c] w fun e w' => e = .returned (.tuple #[.pointer (some ⟨w.heap.size, 0, none⟩), .int .i64 0]) ∧ w' = w.alloc (.cells #[.int .i64 d, .pointer none, .int .i64 0] 71) := by
  have HN := Lib.hid (new_any d w hd2 hd)
  clear hd2 hd
  go_enter Try.func25, Try.ntmps25
  go_wp2_with (go_at_call 10; (with_reducible refine Calls.mono HN.out ?_); rintro e w1 ⟨rfl, rfl⟩)
  go_ret2
  exact ⟨rfl, rfl⟩
theorem of_range {d : Int} (v : Value) (w : World) (hd : d < 2 ∨ 16 < d) :
    Calls Try.prog 25 #[.int .i64 d, v] w fun e w' => e = .returned (.tuple #[.pointer none, .int .i64 3]) ∧ w' = w := by
  have HN := Lib.hid (new_no d w hd)
  clear hd
  go_enter Try.func25, Try.ntmps25
  go_wp2_with (go_at_call 10; (with_reducible refine Calls.mono HN.out ?_); rintro e w1 ⟨rfl, rfl⟩)
  go_ret2
  exact ⟨rfl, rfl⟩

set_option maxRecDepth 100000 in
set_option maxHeartbeats 1000000 in
theorem of_any {d : Nat} {v : Value} {l : List NdR} {w : World} (hd2 : 2 ≤ d) (hd : d ≤ 16) (hl : 0 < l.length) (hN : NdsAt w v l) (hf : NdsFit l) :
    Calls Try.prog 25 #[.int .i64 d, v] w fun e w' =>
      (∃ es tr, ofE d l = some es ∧ e = .returned (.tuple #[.pointer (some ⟨tr, 0, none⟩), .int .i64 0]) ∧ Has w.heap.size w tr d es w') ∨
      (ofE d l = none ∧ e = .returned (.tuple #[.pointer none, .int .i64 4]) ∧ Below w.heap.size w w') := by
  have HNN := Lib.hid hN
  obtain ⟨A, c, rfl, hc, _⟩ := hN
  have HNW := Lib.hid (new_any d w hd2 hd)
  have HNUM := Lib.hid (And.intro hd2 (And.intro hd (And.intro hl hf)))
  have hnl : ((l.length : Int) == 0) = false := beq_eq_false_iff_ne.2 (by omega)
  have hmk := fun W => run_make_bools W l.length hf.1
  clear hd2 hd hl hf hc
  go_enter Try.func25, Try.ntmps25
  go_upto_region 2 with (go_at_call 10; (with_reducible refine Calls.mono HNW.out ?_); rintro e w1 ⟨rfl, rfl⟩)
  go_upto_region 5 with fail
  obtain ⟨W3, hW3⟩ : ∃ W3 : World, W3 = ((w.alloc (.cells #[.int .i64 d, .pointer none, .int .i64 0] 71)).alloc (.cells (Array.replicate l.length (Value.bool false)) 4)).alloc
      (.cells #[.slice A l.length c, .slice (some ⟨w.heap.size + 1, 0, none⟩) l.length l.length, .int .i64 d, .int .i64 0, .int .i64 0, .int .i64 0, .int .i64 0, .bool false] 91) := ⟨_, rfl⟩
  rw [← hW3]
  have hbt : Blk W3 w.heap.size 71 #[.int .i64 d, .pointer none, .int .i64 0] := by rw [hW3]; exact ((Blk.new w _ _).alloc _).alloc _
  have hrow : Blk W3 (w.heap.size + 1) 4 (Array.replicate l.length (Value.bool false)) := by
    rw [hW3]
    have := (Blk.new (w.alloc (.cells #[.int .i64 d, .pointer none, .int .i64 0] 71)) 4 (Array.replicate l.length (Value.bool false))).alloc (.cells #[.slice A l.length c, .slice (some ⟨w.heap.size + 1, 0, none⟩) l.length l.length, .int .i64 d, .int .i64 0, .int .i64 0, .int .i64 0, .int .i64 0, .bool false] 91)
    simpa using this
  have hbox : Blk W3 (w.heap.size + 1 + 1) 91 #[.slice A l.length c, .slice (some ⟨w.heap.size + 1, 0, none⟩) l.length l.length, .int .i64 d, .int .i64 0, .int .i64 0, .int .i64 0, .int .i64 0, .bool false] := by
    rw [hW3]
    have := Blk.new ((w.alloc (.cells #[.int .i64 d, .pointer none, .int .i64 0] 71)).alloc (.cells (Array.replicate l.length (Value.bool false)) 4)) 91 #[.slice A l.length c, .slice (some ⟨w.heap.size + 1, 0, none⟩) l.length l.length, .int .i64 d, .int .i64 0, .int .i64 0, .int .i64 0, .int .i64 0, .bool false]
    simpa using this
  have hlow : Below w.heap.size w W3 := by rw [hW3]; exact (((Below.refl _ _).alloc (Nat.le_refl _) _).alloc (by simp) _).alloc (by simp; omega) _
  have hsz : W3.heap.size = w.heap.size + 3 := by rw [hW3]; simp
  obtain ⟨sb, hsb⟩ : ∃ sb, sb = w.heap.size + 1 := ⟨_, rfl⟩
  obtain ⟨bb, hbb⟩ : ∃ bb, bb = sb + 1 := ⟨_, rfl⟩
  rw [← hsb] at hrow hbox ⊢
  rw [← hbb] at hbox ⊢
  obtain ⟨tr, htr⟩ : ∃ tr, tr = w.heap.size := ⟨_, rfl⟩
  rw [← htr] at hbt ⊢
  have hin : PgIn w (w.heap.size + 3) (fun _ => none) bb sb d (.slice A l.length c) l (bd0 l.length) W3 := by
    have hnd := HNUM.out.2.2.2.1
    refine ⟨TH.none _ _, by omega, ⟨?_, ?_⟩, by simp [bd0], rfl, hlow, by omega, by omega, by omega, by omega, ?_⟩
    · simpa [bd0, k0] using hbox
    · simpa [bd0] using hrow
    · show 0 + 32 * unseen (List.replicate l.length false) ≤ _
      rw [unseen_new]
      omega
  have hpg : Calls Try.prog 39 #[.pointer (some ⟨bb, 0, none⟩), .int .i64 0, .int .i64 1] W3 (PgOut (w.heap.size + 3) (fun _ => none) bb sb d (.slice A l.length c) l (l.length + 1) 0 1 (bd0 l.length) W3) := by
    have hnd := HNUM.out.2.2.2.1
    exact page_any HNUM.out.1 HNUM.out.2.1 HNN.out HNUM.out.2.2.2 (l.length + 1) (fun _ => none) (bd0 l.length) W3 0 1 hin (by show unseen (List.replicate l.length false) < _; rw [unseen_new]; omega) (Nat.le_refl _) (by show 1 + unseen (List.replicate l.length false) ≤ _; rw [unseen_new]; omega) (.inl rfl)
  have HPG := Lib.hid hpg
  have HBU := Lib.hid (fun e X h => PgOut.bu (e := e) (X := X) h hin (tr := tr) (by omega) (by omega) (by omega) (by omega) hbt)
  clear hpg hin hbt hrow hbox hlow hsz hW3 hmk HNW HNN hbb hsb htr
  go_cut [] (fun wz => ∃ S, Bu w (w.heap.size + 3) tr d bb sb (.slice A l.length c) l S wz)
  case first =>
    go_wp2_with (go_at_call 39; (with_reducible refine Calls.mono HPG.out ?_); rintro e w2 hpo; obtain ⟨res, rfl, cb, fb, hBu⟩ := HBU.out _ _ hpo; have HZ := Lib.hid hBu; clear hBu hpo)
    go_meet
    exact HZ.out
  obtain ⟨S, hBu⟩ := hcut
  obtain ⟨wz, rfl⟩ : ∃ wq : World, wq = wc := ⟨_, rfl⟩
  have b1 : wz.cell? ⟨bb, 1, none⟩ = some (.slice (some ⟨sb, 0, none⟩) l.length l.length) := by
    have := hBu.bd.blk.cell 1
    rw [← hBu.seen]
    exact this
  have HB := Lib.hid hBu
  clear hBu HPG HBU
  go_wp2_with fail
  go_loopg [10, 42] l.length (fun g' u s wr => ∃ k : Nat, k ≤ l.length ∧ g' = l.length - k ∧ s = .int .i64 k ∧ Touch wz wr [bb] ∧ BdAt wr bb sb d (.slice A l.length c) (S.wr k))
  case atStart => exact ⟨0, by omega, rfl, rfl, Touch.refl _ _, by rw [BdS.wr_zero]; exact HB.out.bd⟩
  case round =>
    clear b1
    obtain ⟨k, hk, rfl, rfl, hT, hbd⟩ := hrel
    have h0k : (0 : Int) ≤ (k : Int) := by omega
    have b7 : wr.cell? ⟨bb, 7, none⟩ = some (.bool (S.wr k).wrong) := hbd.blk.cell 7
    have f7 := hbd.blk.frozen 7
    obtain ⟨q, hq⟩ : ∃ q, q = (S.wr k).wrong := ⟨_, rfl⟩
    rw [← hq] at b7
    by_cases hlt : k < l.length
    · have hki : (k : Int) < (l.length : Int) := by omega
      have hks : k < S.seen.length := by rw [HB.out.seen]; exact hlt
      have s1 : wr.cell? ⟨sb, k, none⟩ = some (.bool (S.seen.getD k true)) := hbd.flagAt hks
      obtain ⟨fl, hfl⟩ : ∃ fl, fl = S.seen.getD k true := ⟨_, rfl⟩
      rw [← hfl] at s1
      have HWS := Lib.hid (BdS.wr_succ hks)
      have HBD := Lib.hid hbd
      have HT := Lib.hid hT
      have HQ := Lib.hid (And.intro hq hfl)
      have hn6 := HNUM.out.2.2.2.1
      clear hbd hT hq hfl hks
      cases q
      · go_wp2_with fail
        go_roundg (l.length - (k + 1))
        case measure => omega
        case rel =>
          refine ⟨k + 1, by omega, rfl, by go_num, HT.out.trans (Touch.set _ ⟨bb, 7, none⟩ _ _ (by simp)), ?_⟩
          rw [← HWS.out, ← HQ.out.1, ← HQ.out.2]
          exact HBD.out.setWr
      · go_wp2_with fail
        go_roundg (l.length - (k + 1))
        case measure => omega
        case rel =>
          refine ⟨k + 1, by omega, rfl, by go_num, HT.out.trans (Touch.set _ ⟨bb, 7, none⟩ _ _ (by simp)), ?_⟩
          rw [← HWS.out, ← HQ.out.1, Bool.true_or]
          exact HBD.out.setWr
    · obtain rfl : k = l.length := by omega
      have hki : ¬ (l.length : Int) < (l.length : Int) := by omega
      cases q
      · obtain ⟨es, he, hcnt, t2, t2f, hH⟩ := HB.out.yes hT hq.symm
        have b6 : wr.cell? ⟨bb, 5, none⟩ = some (.int .i64 S.last.s) := hbd.blk.cell 5
        have b6 : wr.cell? ⟨bb, 6, none⟩ = some (.int .i64 S.count) := hbd.blk.cell 6
        rw [hcnt] at b6
        have HH := Lib.hid hH
        have HE := Lib.hid he
        clear hbd hT hq hH he hcnt
        go_wp2_with fail
        go_ret2
        exact .inl ⟨es, HE.out, tr, rfl, HH.out _ rfl⟩
      · have HNO := Lib.hid (HB.out.no hT hq.symm)
        clear hbd hT hq
        go_wp2_with fail
        go_ret2
        exact .inr ⟨HNO.out.1, rfl, HNO.out.2⟩
end Go.Proofs.Ytmmikolcipcldaa
