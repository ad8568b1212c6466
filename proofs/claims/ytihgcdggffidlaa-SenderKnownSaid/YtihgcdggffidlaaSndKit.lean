/-
  What is proved here: a sender's Send whole, the laws' own example (works), what comes in (chapter 22). Conditions: none beyond each theorem's own.
-/
import Derived.Test.YtihgcdggffidlaaSndSend
namespace Go.Proofs.Ytihgcdggffidlaa
open Go.ChangeShapes Go.WideShapes Go.ChangeAt Go.RowKit Go.Deep

theorem send_any (g : Nat) (s : Snd) (now next : Int) (w : World) (h : SB 47 w g s) (hok : s.Ok) (hI : I64 next) :
    Calls Try.prog 10 #[.pointer (some ⟨g, 0, none⟩), .int .i64 now, .int .i64 next] w (SendBack 47 g s now next w) := by
  by_cases hn : sendOk now next
  · exact send_yes g s now next w h hok hI.1 hn
  · exact send_no g s now next w h hn
theorem rsend_any (g : Nat) (s : Snd) (now next : Int) (w : World) (h : SB 40 w g s) (hok : s.Ok) :
    Calls Try.prog 12 #[.pointer (some ⟨g, 0, none⟩), .int .i64 now, .int .i64 next] w (SendBack 40 g s now next w) := by
  by_cases hn : sendOk now next
  · exact rsend_yes g s now next w h hok hn
  · exact rsend_no g s now next w h hn

/-- what comes back of a Send whose numbers are known. -/
def SendAt (T : TypeId) (g : Nat) (s' : Snd) (L : List Int) (n : Nat) (w : World) (e : Ending) (w' : World) : Prop :=
  ∃ A c, e = .returned (.slice A n c) ∧ IntsAt .i64 w' A L ∧ Row .i64 3 w' (.slice A n c) n ∧ (∀ b, (Value.slice A n c).ownBlock = some b → w.heap.size ≤ b) ∧ SB T w' g s' ∧ w.grownBy w' (some g)
theorem send_to {T : TypeId} {g : Nat} {s : Snd} {now next : Int} {w w' : World} {e : Ending} (h : SendBack T g s now next w e w') : SendAt T g (s.send now next) (s.list now next) (s.many now next) w e w' := by
  obtain ⟨v, rfl, ⟨A, c, rfl, hA⟩, hR, hb, hS, hG⟩ := h
  have hl : (s.list now next).length = s.many now next := upList_len _ _
  rw [hl] at hR hb ⊢
  exact ⟨A, c, rfl, hA, hR, hb, hS, hG⟩
theorem send_at (g : Nat) (s s' : Snd) (now next : Int) (L : List Int) (n : Nat) (w : World) (h : SB 47 w g s) (hok : s.Ok) (hI : I64 next) (hs : s.send now next = s') (hL : s.list now next = L) (hn : s.many now next = n) :
    Calls Try.prog 10 #[.pointer (some ⟨g, 0, none⟩), .int .i64 now, .int .i64 next] w (SendAt 47 g s' L n w) := by
  subst hs hL hn
  exact (send_any g s now next w h hok hI).mono fun _ _ h => send_to h
theorem ack_at (g : Nat) (s s' : Snd) (now ep next : Int) (ok : Bool) (w : World) (h : SB 47 w g s) (hs : s.ack now ep next = s') (hk : decide (ackOk s now ep next) = ok) :
    Calls Try.prog 14 #[.pointer (some ⟨g, 0, none⟩), .int .i64 now, .int .i64 ep, .int .i64 next] w fun e w' => e = .returned (.bool ok) ∧ SB 47 w' g s' ∧ w.grownBy w' (some g) := by
  subst hs hk
  exact ack_any g s now ep next w h
theorem same_at (A B : Option Addr) (n m ca cb : Nat) (L M : List Int) (w : World) (hn : L.length = n) (hm : M.length = m) (hA : IntsAt .i64 w A L) (hB : IntsAt .i64 w B M) (hlen : n ≤ 140737488351232) (heq : L = M) :
    Calls Try.prog 11 #[.slice A n ca, .slice B m cb] w fun e w' => e = .returned (.bool true) ∧ Below w.heap.size w w' := by
  subst hn hm
  refine (Ints.same_any A B ca cb L M w hA hB hlen).mono ?_
  rintro e w' ⟨rfl, hb⟩
  exact ⟨by rw [decide_eq_true heq], hb⟩
theorem ints_of_blk {k : IntKind} {w : World} {g : Nat} {t : TypeId} {cs : Array Value} {L : List Int} (h : Blk w g t cs) (e : cs.toList = L.map (Value.int k)) : IntsAt k w (some ⟨g, 0, none⟩) L := by
  intro _
  refine ⟨g, 0, rfl, h.lt, fun i hi => ?_⟩
  have c0 : (L.map (Value.int k))[i]? = some (.int k (L.getD i 0)) := by simp [hi]
  rw [← e, Array.getElem?_toList] at c0
  simp only [Nat.zero_add]
  exact (h.cell _).trans c0
theorem SB.below {T : TypeId} {w w' : World} {g : Nat} {s : Snd} (h : SB T w g s) (hb : Below w.heap.size w w') : SB T w' g s := Blk.below h hb h.lt
theorem IntsAt.grown {k : IntKind} {w w' : World} {A : Option Addr} {L : List Int} {row : Option Nat} (h : IntsAt k w A L) (hg : w.grownBy w' row) (hne : ∀ b o, A = some ⟨b, o, none⟩ → some b ≠ row) : IntsAt k w' A L := by
  intro hp
  obtain ⟨b, off, rfl, hlt, hc⟩ := h hp
  have hb := hg.block b hlt (hne b off rfl)
  exact ⟨b, off, rfl, Nat.lt_of_lt_of_le hlt hg.size, fun i hi => (World.cell?_of_block (a := ⟨b, off + i, none⟩) hb).trans (hc i hi)⟩

set_option maxRecDepth 100000 in
set_option maxHeartbeats 1000000 in
theorem works_any (w : World) : Calls Try.prog 7 #[] w fun e w' => e = .returned (.bool true) ∧ Below w.heap.size w w' := by
  go_enter Try.func7, Try.ntmps7
  go_wp2_with fail
  refine (new_yes 3 5 1 0 _ (by decide)).mono ?_
  rintro e w1 ⟨rfl, rfl⟩
  have hS : SB 47 (w.alloc (.cells #[.int .i64 3, .int .i64 5, .int .i64 1, .int .i64 0, .int .i64 0, .int .i64 0, .int .i64 0] 47)) w.heap.size ⟨3, 5, 1, 0, 0, 0, 0⟩ := Blk.new _ _ _
  have hbw : Below w.heap.size w (w.alloc (.cells #[.int .i64 3, .int .i64 5, .int .i64 1, .int .i64 0, .int .i64 0, .int .i64 0, .int .i64 0] 47)) := by (repeat (first | (with_reducible assumption) | (with_reducible exact Below.refl _ _) | ((with_reducible refine Below.setCell ?_ ?_ _); rotate_left; · (first | omega | (simp; done) | (simp; omega) | (simp at *; omega))) | ((with_reducible refine Below.alloc ?_ ?_ _); rotate_left; · (first | omega | (simp; done) | (simp; omega) | (simp at *; omega))) | (with_reducible refine Below.drew ?_) | (with_reducible refine below_drewN ?_ _) | ((refine Below.trans ?_ (Below.mono (by with_reducible assumption) ?_)); rotate_left; · (first | omega | (simp; done) | (simp; omega) | (simp at *; omega)))))
  obtain ⟨wa, hwa⟩ : ∃ wa : World, wa = w.alloc (.cells #[.int .i64 3, .int .i64 5, .int .i64 1, .int .i64 0, .int .i64 0, .int .i64 0, .int .i64 0] 47) := ⟨_, rfl⟩
  rw [← hwa] at hS hbw ⊢
  clear hwa
  have HS := Lib.hid hS
  have HW := Lib.hid hbw
  clear hS hbw
  go_wp2_with fail
  refine (send_at w.heap.size _ ⟨3, 5, 1, 0, 3, 5, 10⟩ 10 5 [0, 1, 2] 3 _ HS.out (by unfold Snd.Ok; decide) ⟨by decide, by decide⟩ (by rfl) (by decide) (by decide)).mono ?_
  rintro e w2 ⟨A, c, rfl, hA, _, hAb, hS2, hG2⟩
  have hs2 := hG2.size
  have HW2 := Lib.hid (HW.out.trans (below_grown hG2 (fun b e => by cases e; exact Nat.le_refl _) HW.out.size))
  have HS2 := Lib.hid hS2
  have HA2 := Lib.hid hA
  clear hS2 hG2 hA hAb HS HW
  go_wp2_with fail
  have HB := Lib.hid (Blk.new w2 3 #[.int .i64 0, .int .i64 1, .int .i64 2])
  have hb2 : Below w2.heap.size w2 (w2.alloc (.cells #[.int .i64 0, .int .i64 1, .int .i64 2] 3)) := by (repeat (first | (with_reducible assumption) | (with_reducible exact Below.refl _ _) | ((with_reducible refine Below.setCell ?_ ?_ _); rotate_left; · (first | omega | (simp; done) | (simp; omega) | (simp at *; omega))) | ((with_reducible refine Below.alloc ?_ ?_ _); rotate_left; · (first | omega | (simp; done) | (simp; omega) | (simp at *; omega))) | (with_reducible refine Below.drew ?_) | (with_reducible refine below_drewN ?_ _) | ((refine Below.trans ?_ (Below.mono (by with_reducible assumption) ?_)); rotate_left; · (first | omega | (simp; done) | (simp; omega) | (simp at *; omega)))))
  have HB2 := Lib.hid hb2
  clear hb2
  refine (same_at _ _ 3 3 _ _ [0, 1, 2] [0, 1, 2] _ rfl rfl (HA2.out.below HB2.out (Nat.le_refl _)) (ints_of_blk HB.out rfl) (by omega) rfl).mono ?_
  rintro e w3 ⟨rfl, hb3⟩
  have HW3 := Lib.hid ((HW2.out.trans (HB2.out.mono HW2.out.size)).trans (hb3.mono (Nat.le_trans HW2.out.size HB2.out.size)))
  have HS3 := Lib.hid ((HS2.out.below HB2.out).below hb3)
  clear hb3 HW2 HS2 HB HB2 HA2
  go_wp2_with fail
  refine (send_at w.heap.size _ ⟨3, 5, 1, 0, 3, 5, 10⟩ 12 5 [] 0 _ HS3.out (by unfold Snd.Ok; decide) ⟨by decide, by decide⟩ (by rfl) (by decide) (by decide)).mono ?_
  rintro e w4 ⟨A4, c4, rfl, _, _, _, hS4, hG4⟩
  have HW4 := Lib.hid (HW3.out.trans (below_grown hG4 (fun b e => by cases e; exact Nat.le_refl _) HW3.out.size))
  have HS4 := Lib.hid hS4
  clear hS4 hG4 HS3 HW3
  go_wp2_with fail
  refine (ack_at w.heap.size _ ⟨3, 5, 1, 1, 3, 5, 12⟩ 12 1 1 true _ HS4.out (by rfl) (by decide)).mono ?_
  rintro e w5 ⟨rfl, hS5, hG5⟩
  have HW5 := Lib.hid (HW4.out.trans (below_grown hG5 (fun b e => by cases e; exact Nat.le_refl _) HW4.out.size))
  have HS5 := Lib.hid hS5
  clear hS5 hG5 HS4 HW4
  go_wp2_with fail
  refine (send_at w.heap.size _ ⟨3, 5, 1, 1, 4, 5, 12⟩ 12 5 [3] 1 _ HS5.out (by unfold Snd.Ok; decide) ⟨by decide, by decide⟩ (by rfl) (by decide) (by decide)).mono ?_
  rintro e w6 ⟨A6, c6, rfl, hA6, _, _, hS6, hG6⟩
  have HW6 := Lib.hid (HW5.out.trans (below_grown hG6 (fun b e => by cases e; exact Nat.le_refl _) HW5.out.size))
  have HS6 := Lib.hid hS6
  have HA6 := Lib.hid hA6
  clear hS6 hG6 hA6 HS5 HW5
  go_wp2_with fail
  have HB := Lib.hid (Blk.new w6 3 #[.int .i64 3])
  have hb6 : Below w6.heap.size w6 (w6.alloc (.cells #[.int .i64 3] 3)) := by (repeat (first | (with_reducible assumption) | (with_reducible exact Below.refl _ _) | ((with_reducible refine Below.setCell ?_ ?_ _); rotate_left; · (first | omega | (simp; done) | (simp; omega) | (simp at *; omega))) | ((with_reducible refine Below.alloc ?_ ?_ _); rotate_left; · (first | omega | (simp; done) | (simp; omega) | (simp at *; omega))) | (with_reducible refine Below.drew ?_) | (with_reducible refine below_drewN ?_ _) | ((refine Below.trans ?_ (Below.mono (by with_reducible assumption) ?_)); rotate_left; · (first | omega | (simp; done) | (simp; omega) | (simp at *; omega)))))
  have HB6 := Lib.hid hb6
  clear hb6
  refine (same_at _ _ 1 1 _ _ [3] [3] _ rfl rfl (HA6.out.below HB6.out (Nat.le_refl _)) (ints_of_blk HB.out rfl) (by omega) rfl).mono ?_
  rintro e w7 ⟨rfl, hb7⟩
  have HW7 := Lib.hid ((HW6.out.trans (HB6.out.mono HW6.out.size)).trans (hb7.mono (Nat.le_trans HW6.out.size HB6.out.size)))
  have HS7 := Lib.hid ((HS6.out.below HB6.out).below hb7)
  clear hb7 HW6 HS6 HB HB6 HA6
  go_wp2_with fail
  refine (base_any w.heap.size _ _ HS7.out).mono ?_
  rintro e w8 ⟨rfl, rfl⟩
  go_wp2_with fail
  refine (epoch_any w.heap.size _ _ HS7.out).mono ?_
  rintro e w9 ⟨rfl, rfl⟩
  go_wp2_with fail
  go_ret
  exact ⟨rfl, HW7.out⟩

/-- a call: its kind, its numbers. -/
structure Op where
  kind : Int
  now : Int
  next : Int
  ep : Int
abbrev o0 : Op := ⟨0, 0, 0, 0⟩
def OpsAt (w : World) (A : Option Addr) (L : List Op) : Prop :=
  0 < L.length → ∃ b off, A = some ⟨b, off, none⟩ ∧ b < w.heap.size ∧ ∀ i, i < L.length →
    w.cell? ⟨b, off + i * 4, none⟩ = some (.int .i64 (L.getD i o0).kind) ∧ w.cell? ⟨b, off + i * 4 + 1, none⟩ = some (.int .i64 (L.getD i o0).now) ∧ w.cell? ⟨b, off + i * 4 + 2, none⟩ = some (.int .i64 (L.getD i o0).next) ∧ w.cell? ⟨b, off + i * 4 + 3, none⟩ = some (.int .i64 (L.getD i o0).ep)
theorem opC : Try.prog.cellsOf 32 = 4 := by kernel_rfl
theorem opB : Try.prog.bytesOf 32 = 32 := by kernel_rfl
theorem open_ops {H : Type} {enc : TypeId × Value → H} {W : World} {b0 : Nat} {v : Value} {d : DataW H} {p : List MemPlace}
    (hv : Value.okWide Try.prog W .any b0 22 v) (h : DataW.Trod enc Try.prog W 0 (fun _ => true) true 22 v d p)
    {ts : List TypeId} {ds : List (DataW H)} (hsz : (DataW.weightsEach Try.prog ts ds).all (· ≤ reachBytes) = true) {j : Nat} (hj : ts[j]? = some 22) (hd : ds[j]? = some d) :
    ∃ (A : Option Addr) (cap : Nat) (L : List Op), v = .slice A L.length cap ∧ L.length ≤ cap ∧ cap * 32 ≤ 140737488351232 ∧ OpsAt W A L ∧ ∀ i, i < L.length → (I64 (L.getD i o0).now ∧ I64 (L.getD i o0).next) := by
  obtain ⟨a0, len, cap, rfl⟩ := okWide_slice Try.underlying22 hv
  obtain ⟨fuel, hf⟩ := h
  rcases open_slice_fields Try.underlying22 Try.underlying32 (by kernel_rfl) opC hf with ⟨hcs, _⟩ | ⟨a, l0, c0, m, D, Pl, hcs, _, hl, _, hm, hx, hi⟩
  · simp only [Value.cells, List.cons.injEq, and_true, Value.slice.injEq] at hcs
    obtain ⟨rfl, rfl, rfl⟩ := hcs
    exact ⟨none, 0, [], rfl, Nat.le_refl _, by omega, fun h => absurd h (by simp), fun i hi => absurd hi (by simp)⟩
  · simp only [Value.cells, List.cons.injEq, and_true, Value.slice.injEq] at hcs
    obtain ⟨rfl, rfl, rfl⟩ := hcs
    simp only [if_true] at hm
    have hcap : cap * 32 ≤ 140737488351232 := by
      simp only [Prod.mk.injEq] at hx
      have := sized_slice hsz hj (hd.trans (by rw [hx.1])) Try.underlying22
      rw [opB] at this
      simp only [List.length_map, List.length_range] at this
      have e : len + (m - len) = cap := by omega
      rw [e] at this
      unfold reachBytes at this
      omega
    have hex : ∀ i, i < len → ∃ s : Op, (W.cell? (a.add (i * 4 + 0)) = some (.int .i64 s.kind) ∧ W.cell? (a.add (i * 4 + 1)) = some (.int .i64 s.now) ∧ W.cell? (a.add (i * 4 + 2)) = some (.int .i64 s.next) ∧ W.cell? (a.add (i * 4 + 3)) = some (.int .i64 s.ep)) ∧ (I64 s.now ∧ I64 s.next) := by
      intro i hil
      obtain ⟨ys, n, _, _, _, hfld⟩ := hi i (by omega)
      obtain ⟨v0, y0, c0, _, t0⟩ := hfld 0 _ rfl
      obtain ⟨v1, y1, c1, _, t1⟩ := hfld 1 _ rfl
      obtain ⟨v2, y2, c2, _, t2⟩ := hfld 2 _ rfl
      obtain ⟨v3, y3, c3, _, t3⟩ := hfld 3 _ rfl
      obtain ⟨n0, e0, _, w0⟩ := DataW.trod_int Try.underlying3 t0
      obtain ⟨n1, e1, _, w1⟩ := DataW.trod_int Try.underlying3 t1
      obtain ⟨n2, e2, _, w2⟩ := DataW.trod_int Try.underlying3 t2
      obtain ⟨n3, e3, _, w3⟩ := DataW.trod_int Try.underlying3 t3
      simp only [List.cons.injEq, and_true] at e0 e1 e2 e3
      subst e0 e1 e2 e3
      exact ⟨⟨n0, n1, n2, n3⟩, ⟨c0, c1, c2, c3⟩, I64.of w1, I64.of w2⟩
    haveI : Inhabited Op := ⟨o0⟩
    obtain ⟨S, hS⟩ := choose_lt hex
    refine ⟨some a, cap, (List.range len).map S, by simp, by simp; exact hl, hcap, fun hpos => ?_, fun i hil => ?_⟩
    · simp only [List.length_map, List.length_range] at hpos
      obtain ⟨b, off, spot⟩ := a
      have hspot : spot = none := by simpa [Addr.add] using World.cell?_spot (hS 0 hpos).1.1
      subst hspot
      refine ⟨b, off, rfl, World.block_lt_of_cell? _ _ (hS 0 hpos).1.1, fun i hil => ?_⟩
      simp only [List.length_map, List.length_range] at hil
      have := (hS i hil).1
      simp only [Go.WideShapes.add_plain] at this
      have e : ((List.range len).map S).getD i o0 = S i := by simp [hil]
      rw [e]
      simpa [Nat.add_assoc] using this
    · simp only [List.length_map, List.length_range] at hil
      have e : ((List.range len).map S).getD i o0 = S i := by simp [hil]
      rw [e]
      exact (hS i hil).2
end Go.Proofs.Ytihgcdggffidlaa
