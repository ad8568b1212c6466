/-
  What is proved here: what a sender's Send answers, and the reference's (chapter 22). Conditions: none beyond each theorem's own.
-/
import Derived.Test.YtihgcdggffidlaaSndWalk
namespace Go.Proofs.Ytihgcdggffidlaa
open Go.RowKit Go.Deep

theorem infoI : (Try.prog.info? 3).map (fun i => (i.zero, i.size, i.bytes)) = some (some (.int .i64 0), 1, 8) := by kernel_rfl

/-- what comes back of Send. -/
def SendBack (T : TypeId) (g : Nat) (s : Snd) (now next : Int) (w : World) (e : Ending) (w' : World) : Prop :=
  ∃ v, e = .returned v ∧ Reads .i64 w' v (s.list now next) ∧ Row .i64 3 w' v (s.many now next) ∧ (∀ b, v.ownBlock = some b → w.heap.size ≤ b) ∧ SB T w' g (s.send now next) ∧ w.grownBy w' (some g)
/-- the sender alone has turned. -/
def Kept1 (T : TypeId) (g : Nat) (s : Snd) (w wx : World) : Prop := SB T wx g s ∧ w.grownBy wx (some g)
theorem Kept1.drewN {T : TypeId} {g : Nat} {s : Snd} {w wx : World} (h : Kept1 T g s w wx) (n : Nat) : Kept1 T g s w (wx.drewN n) := ⟨h.1, only_drewN h.2 n⟩
theorem Kept1.set_ {T : TypeId} {g : Nat} {s s' : Snd} {w wx : World} (h : Kept1 T g s w wx) (o : Nat) (u : Value) (e : s.cells.setIfInBounds o u = s'.cells) : Kept1 T g s' w (wx.setCell ⟨g, o, none⟩ u) :=
  ⟨by have := Blk.set_ h.1 o u; rw [e] at this; exact this, only_set h.2 _ _⟩
theorem none_back {T : TypeId} {g : Nat} {s s' : Snd} {now next : Int} {w wx : World} (h : Kept1 T g s' w wx) (e : s.send now next = s') (hm : s.many now next = 0) : SendBack T g s now next w (.returned (.slice none 0 0)) wx := by
  refine ⟨_, rfl, ⟨none, 0, ?_, ?_⟩, .inl ⟨rfl, hm⟩, (fun b h => by cases h), (by rw [e]; exact h.1), h.2⟩
  · unfold Snd.list; rw [hm]; rfl
  · unfold Snd.list; rw [hm]; exact IntsAt.nil_ _ _ _

theorem only_alloc {a w : World} {row : Option Nat} (h : a.grownBy w row) (o : Obj) : a.grownBy (w.alloc o) row :=
  ⟨h.os, h.tape, h.output, Nat.le_trans h.size (by simp), fun i hi hne => (Below.heap_alloc w o i (Nat.lt_of_lt_of_le hi h.size)).trans (h.block i hi hne)⟩
theorem only_new {a w : World} {row : Option Nat} (h : a.grownBy w row) {B : Nat} (hB : a.heap.size ≤ B) (o : Nat) (u : Value) : a.grownBy (w.setCell ⟨B, o, none⟩ u) row :=
  ⟨h.os, h.tape, h.output, by simpa [World.setCell] using h.size, fun i hi hne => (Below.heap_setCell w ⟨B, o, none⟩ u i (by show i ≠ B; omega)).trans (h.block i hi hne)⟩
theorem Kept1.alloc {T : TypeId} {g : Nat} {s : Snd} {w wx : World} (h : Kept1 T g s w wx) (o : Obj) : Kept1 T g s w (wx.alloc o) := ⟨Blk.alloc h.1 o, only_alloc h.2 o⟩
theorem Kept1.new_ {T : TypeId} {g : Nat} {s : Snd} {w wx : World} (h : Kept1 T g s w wx) {B : Nat} (hB : w.heap.size ≤ B) (hg : g ≠ B) (o : Nat) (u : Value) : Kept1 T g s w (wx.setCell ⟨B, o, none⟩ u) :=
  ⟨Blk.far (p := ⟨B, o, none⟩) h.1 hg u, only_new h.2 hB o u⟩
theorem Kept1.lt {T : TypeId} {g : Nat} {s : Snd} {w wx : World} (h : Kept1 T g s w wx) : g < wx.heap.size := Blk.lt h.1

theorem only_own {a w w' : World} {row row' : Option Nat} (h : a.grownBy w row) (k : w.grownBy w' row') (hr : ∀ b, row' = some b → a.heap.size ≤ b) : a.grownBy w' row :=
  ⟨k.os.trans h.os, k.tape.trans h.tape, k.output.trans h.output, Nat.le_trans h.size k.size, fun i hi hne => (k.block i (Nat.lt_of_lt_of_le hi h.size) (fun e => by have := hr i e.symm; omega)).trans (h.block i hi hne)⟩
theorem own_ne_type {Good : Value → Prop} {w : World} {base : Nat} {e t : TypeId} {size n g : Nat} {v : Value} {xs : List Value} {cs : Array Value} (h : OwnG Good w base e size v n xs) (hb : Blk w g t cs) (hne : t ≠ e) : some g ≠ v.ownBlock := by
  intro hv
  rcases h.1.2 with ⟨rfl, _⟩ | ⟨g0, cap, cur, rfl, _, hh, _⟩
  · cases hv
  · have : g = g0 := by injection hv
    subst this
    unfold Blk at hb
    rw [hh] at hb
    injection hb with hb
    injection hb with _ hb
    exact hne hb.symm
theorem OwnG.far {Good : Value → Prop} {w : World} {base : Nat} {e : TypeId} {size n : Nat} {v : Value} {xs : List Value} (h : OwnG Good w base e size v n xs) {g : Nat} (hg : some g ≠ v.ownBlock) (o : Nat) (u : Value) : OwnG Good (w.setCell ⟨g, o, none⟩ u) base e size v n xs := by
  refine ⟨h.1.kept (only_set (only_refl w (some g)) o u) (.inr (fun e => hg e.symm)), fun g' c cur hv hg' => ?_⟩
  have hne : g' ≠ g := fun e => hg (by rw [hv, e]; rfl)
  rw [Below.heap_setCell w ⟨g, o, none⟩ u g' hne] at hg'
  exact h.2 g' c cur hv hg'

theorem send_bad (s : Snd) (now next : Int) (h : ¬ sendOk now next) : s.send now next = s ∧ s.many now next = 0 := by
  unfold Snd.send Snd.many; rw [if_neg h, if_neg h]; exact ⟨rfl, rfl⟩

theorem send_no (g : Nat) (s : Snd) (now next : Int) (w : World) (h : SB 47 w g s) (hn : ¬ sendOk now next) :
    Calls Try.prog 10 #[.pointer (some ⟨g, 0, none⟩), .int .i64 now, .int .i64 next] w (SendBack 47 g s now next w) := by
  obtain ⟨e1, e2⟩ := send_bad s now next hn
  have HE := Lib.hid (And.intro e1 e2)
  have HK : Kept1 47 g s w w := ⟨h, only_refl _ _⟩
  have hc : inB now 0 1099511627776 = false ∨ inB now 0 1099511627776 = true ∧ 1099511627776 < next := by
    unfold sendOk at hn
    simp only [inB, decide_eq_true_eq, decide_eq_false_iff_not]
    omega
  clear e1 e2 hn h
  rcases hc with h1 | ⟨h1, h2⟩
  all_goals
    go_enter Try.func10, Try.ntmps10
    go_wp2_with (go_at_call 19; refine (within_any _ _ _ _).mono ?_; rintro e w' ⟨rfl, rfl⟩)
    go_ret
    exact none_back HK HE.out.1 HE.out.2
theorem rsend_no (g : Nat) (s : Snd) (now next : Int) (w : World) (h : SB 40 w g s) (hn : ¬ sendOk now next) :
    Calls Try.prog 12 #[.pointer (some ⟨g, 0, none⟩), .int .i64 now, .int .i64 next] w (SendBack 40 g s now next w) := by
  obtain ⟨e1, e2⟩ := send_bad s now next hn
  have HE := Lib.hid (And.intro e1 e2)
  have HK : Kept1 40 g s w w := ⟨h, only_refl _ _⟩
  have hc : now < 0 ∨ ¬ now < 0 ∧ (1099511627776 < now ∨ ¬ 1099511627776 < now ∧ 1099511627776 < next) := by
    unfold sendOk at hn
    omega
  clear e1 e2 hn h
  rcases hc with h0 | ⟨h0, h1 | ⟨h1, h2⟩⟩
  all_goals
    go_enter Try.func12, Try.ntmps12
    go_wp2
    go_ret
    exact none_back HK HE.out.1 HE.out.2

def Snd.withTop (s : Snd) (t : Int) : Snd := ⟨s.win, s.res, s.ep, s.base, s.sent, t, s.since⟩
def Snd.withSent (s : Snd) (t : Int) : Snd := ⟨s.win, s.res, s.ep, s.base, t, s.top, s.since⟩
def Snd.withSince (s : Snd) (t : Int) : Snd := ⟨s.win, s.res, s.ep, s.base, s.sent, s.top, t⟩
def Snd.again (s : Snd) (now : Int) : Bool := decide (s.base < s.sent ∧ s.since + s.res ≤ now)
theorem head_if (s : Snd) (now : Int) : s.head now = if s.again now = true then s.base else s.sent := by
  unfold Snd.head Snd.again
  simp

set_option maxRecDepth 100000 in
set_option maxHeartbeats 2000000 in
theorem send_yes (g : Nat) (s : Snd) (now next : Int) (w : World) (h : SB 47 w g s) (hok : s.Ok) (hlo : -9223372036854775808 ≤ next) (hn : sendOk now next) :
    Calls Try.prog 10 #[.pointer (some ⟨g, 0, none⟩), .int .i64 now, .int .i64 next] w (SendBack 47 g s now next w) := by
  obtain ⟨i0, hi0, hz0, hz1, hz2⟩ := info_parts infoI
  have h1 : inB now 0 1099511627776 = true := inB_yes ⟨hn.1, hn.2.1⟩
  have h2 : ¬ 1099511627776 < next := by unfold sendOk at hn; omega
  obtain ⟨o1, o2, o3, o4, o5, o6, o7, o8, o9, o10, o11⟩ := id hok
  obtain ⟨hh1, hh2⟩ := head_facts s hok now
  have hif := head_if s now
  have HSE := Lib.hid (show s.send now next = if s.head now < s.upto next then ⟨s.win, s.res, s.ep, s.base, s.upto next, max s.top next, now⟩ else ⟨s.win, s.res, s.ep, s.base, s.head now, max s.top next, s.since⟩ by unfold Snd.send; rw [if_pos hn])
  have HMA := Lib.hid (show s.many now next = (s.upto next - s.head now).toNat by unfold Snd.many; rw [if_pos hn])
  have HUP := Lib.hid (show s.upto next = min next (s.base + s.win) from rfl)
  have HK := Lib.hid (show Kept1 47 g s w w from ⟨h, only_refl _ _⟩)
  have HIF := Lib.hid hif
  obtain ⟨hd, hhd⟩ : ∃ hd, hd = s.head now := ⟨_, rfl⟩
  have HHD := Lib.hid hhd
  rw [← hhd] at hh1 hh2
  have hlt0 := Blk.lt h
  clear h hif hhd hok
  go_enter Try.func10, Try.ntmps10
  go_upto_region 3 with (go_at_call 19; refine (within_any _ _ _ _).mono ?_; rintro e w' ⟨rfl, rfl⟩)
  go_cut [] (fun wx => Kept1 47 g (s.withTop (max s.top next)) w wx)
  case first =>
    obtain ⟨⟨_, _, c2, c3, c4, c5, c6⟩, ⟨f3, f4, f5, f6⟩⟩ := HK.out.1.all
    by_cases hm : s.top < next
    · have HM := Lib.hid (show max s.top next = next by omega)
      go_wp2_with fail
      go_meet
      rw [HM.out]
      exact HK.out.set_ 5 _ rfl
    · have HM := Lib.hid (show max s.top next = s.top by omega)
      go_wp2_with fail
      go_meet
      rw [HM.out]
      exact HK.out.set_ 5 _ rfl
  case rest =>
    obtain ⟨wa, rfl⟩ : ∃ wa : World, wa = wc := ⟨_, rfl⟩
    have HA := Lib.hid hcut
    have hlta := hcut.lt
    clear hcut HK
    go_upto_region 4 with fail
    go_cut [47] (fun s47 wx => s47 = .bool (s.again now) ∧ Kept1 47 g (s.withTop (max s.top next)) w wx)
    case first =>
      obtain ⟨⟨_, c1, c2, c3, c4, c5, c6⟩, ⟨f3, f4, f5, f6⟩⟩ := HA.out.1.all
      simp only [Snd.withTop] at c1 c2 c3 c4 c5 c6
      have hw1 : IntKind.i64.wrap (s.since + s.res) = s.since + s.res := IntWalk.i64_in _ (by omega)
      by_cases b1 : s.base < s.sent
      · by_cases b2 : s.since + s.res ≤ now
        · have HG := Lib.hid (show s.again now = true from decide_eq_true ⟨b1, b2⟩)
          go_quiet (fail)
          go_wp2_with fail
          go_meet
          exact ⟨by rw [HG.out], HA.out.drewN _⟩
        · have HG := Lib.hid (show s.again now = false from decide_eq_false (fun h => b2 h.2))
          have b2' : decide (s.since + s.res ≤ now) = false := decide_eq_false b2
          go_quiet (fail)
          go_wp2_with fail
          go_meet
          exact ⟨by rw [HG.out], HA.out.drewN _⟩
      · have HG := Lib.hid (show s.again now = false from decide_eq_false (fun h => b1 h.1))
        have b1' : decide (s.base < s.sent) = false := decide_eq_false b1
        go_quiet (fail)
        go_wp2_with fail
        go_meet
        exact ⟨by rw [HG.out], HA.out.drewN _⟩
    case rest =>
      obtain ⟨rfl, hK⟩ := hcut
      obtain ⟨wb, rfl⟩ : ∃ wb : World, wb = wc := ⟨_, rfl⟩
      have HB := Lib.hid hK
      have hltb := hK.lt
      clear hK HA
      go_upto_if 47 with fail
      go_cut [] (fun wx => Kept1 47 g ((s.withTop (max s.top next)).withSent hd) w wx)
      case first =>
        obtain ⟨⟨_, c1, c2, c3, c4, c5, c6⟩, ⟨f3, f4, f5, f6⟩⟩ := HB.out.1.all
        simp only [Snd.withTop] at c1 c2 c3 c4 c5 c6
        obtain ⟨ag, hag⟩ : ∃ ag, ag = s.again now := ⟨_, rfl⟩
        have HAG := Lib.hid hag
        rw [← hag]
        clear hag
        cases ag with
        | true =>
          have HD := Lib.hid (show hd = s.base by rw [HHD.out, HIF.out, if_pos HAG.out.symm])
          go_wp2_with fail
          go_meet
          rw [HD.out]
          exact HB.out.set_ 4 _ rfl
        | false =>
          have HD := Lib.hid (show hd = s.sent by rw [HHD.out, HIF.out, ← HAG.out, if_neg (by simp)])
          go_wp2_with fail
          go_meet
          rw [HD.out]
          exact HB.out
      case rest =>
        obtain ⟨wd, rfl⟩ : ∃ wd : World, wd = wc := ⟨_, rfl⟩
        have HC := Lib.hid hcut
        have hltd := hcut.lt
        clear hcut HB
        go_upto_region 6 with fail
        go_cut [7] (fun s7 wx => s7 = .int .i64 (wrap64 (s.upto next - hd)) ∧ Kept1 47 g ((s.withTop (max s.top next)).withSent hd) w wx)
        case first =>
          obtain ⟨⟨c0, c1, c2, c3, c4, c5, c6⟩, ⟨f3, f4, f5, f6⟩⟩ := HC.out.1.all
          simp only [Snd.withTop, Snd.withSent] at c0 c1 c2 c3 c4 c5 c6
          have hw1 : IntKind.i64.wrap (s.base + s.win) = s.base + s.win := IntWalk.i64_in _ (by omega)
          go_quiet (fail)
          go_wp2_with fail
          all_goals
            go_meet
            exact ⟨congrArg (Value.int .i64) (congrArg wrap64 (by rw [HUP.out]; omega)), HC.out.drewN _⟩
        case rest =>
          obtain ⟨hs7, hK⟩ := hcut
          obtain ⟨we, rfl⟩ : ∃ we : World, we = wc := ⟨_, rfl⟩
          have HD := Lib.hid hK
          have hlte := hK.lt
          clear HC
          obtain ⟨⟨c0, c1, c2, c3, c4, c5, c6⟩, ⟨f3, f4, f5, f6⟩⟩ := hK.1.all
          simp only [Snd.withTop, Snd.withSent] at c0 c1 c2 c3 c4 c5 c6
          clear hK
          by_cases q1 : next ≤ hd
          · have HM0 := Lib.hid (show s.many now next = 0 by rw [HMA.out, HUP.out, ← HHD.out]; omega)
            have HS0 := Lib.hid (show s.send now next = (s.withTop (max s.top next)).withSent hd by rw [HSE.out, if_neg (by rw [HUP.out, ← HHD.out]; omega), HHD.out]; rfl)
            subst hs7
            go_wp2_with fail
            go_ret
            exact none_back HD.out HS0.out HM0.out
          · have hwm : wrap64 (s.upto next - hd) = s.upto next - hd := IntWalk.wrap64_in _ (by rw [HUP.out]; omega)
            rw [hwm] at hs7
            clear hwm
            by_cases q2 : s.upto next - hd ≤ 0
            · have HM0 := Lib.hid (show s.many now next = 0 by rw [HMA.out, ← HHD.out]; omega)
              have HS0 := Lib.hid (show s.send now next = (s.withTop (max s.top next)).withSent hd by rw [HSE.out, if_neg (by rw [← HHD.out]; omega), HHD.out]; rfl)
              subst hs7
              go_wp2_with fail
              go_ret
              exact none_back HD.out HS0.out HM0.out
            · obtain ⟨n, hn⟩ : ∃ n : Nat, s.upto next - hd = (n : Int) := ⟨(s.upto next - hd).toNat, by omega⟩
              rw [hn] at hs7
              have hn0 : 0 < n := by omega
              have hnz : ¬ (n : Int) ≤ 0 := by omega
              have hnB : (n : Int) ≤ 16 := by rw [← hn, HUP.out]; omega
              have hup : s.upto next = hd + n := by omega
              have HMN := Lib.hid (show s.many now next = n by rw [HMA.out, ← HHD.out]; omega)
              have HS0 := Lib.hid (show s.send now next = ((s.withTop (max s.top next)).withSent (hd + n)).withSince now by rw [HSE.out, if_pos (by rw [← HHD.out]; omega), hup]; rfl)
              have hmk := fun W => run_make_rowN (P := Try.prog) 33 3 i0 _ Try.underlying33 hi0 hz0 .i64 .i64 n n (Nat.le_refl _) (by rw [hz2]; omega) (by omega) W
              rw [hz1, Nat.mul_one] at hmk
              simp only [Value.cells] at hmk
              have HMK := Lib.hid hmk
              clear hmk
              have HR0 := Lib.hid (IRow.made .i64 3 we n)
              have HK0 := Lib.hid (HD.out.alloc (.cells (madeCells #[.int .i64 0] n) 3))
              have hwg : w.heap.size ≤ we.heap.size := HD.out.2.size
              have hge : g ≠ we.heap.size := by omega
              subst hs7
              clear q2 hn hup hi0 hz0 hz1 hz2
              have hmk' := HMK.out
              go_wp2_with fail
              clear hmk'
              go_loopg [84] n (fun gg i wr => ∃ k : Nat, k ≤ n ∧ gg = n - k ∧ i = .int .i64 k ∧ IRow .i64 3 wr we.heap.size n (upList hd k) ∧ Kept1 47 g ((s.withTop (max s.top next)).withSent hd) w wr)
              case atStart => exact ⟨0, Nat.zero_le _, rfl, rfl, HR0.out, HK0.out⟩
              case round =>
                obtain ⟨k, hk, rfl, rfl, hrow, hK⟩ := hrel
                by_cases hlt : k < n
                · have hki : (k : Int) < (n : Int) := by omega
                  have hk0 : (0 : Int) ≤ (k : Int) := by omega
                  obtain ⟨⟨d0, d1, d2, d3, d4, d5, d6⟩, _⟩ := hK.1.all
                  simp only [Snd.withTop, Snd.withSent] at d0 d1 d2 d3 d4 d5 d6
                  obtain ⟨z0, r0⟩ := hrow.any (j := k) hlt
                  have fr := hrow.frozen k
                  have hlr := hrow.lt
                  have hlg := hK.lt
                  have hpush := hrow.push (by rw [upList_len]; exact hlt) (hd + k)
                  rw [upList_len, ← upList_succ] at hpush
                  have HP := Lib.hid hpush
                  have HKR := Lib.hid (hK.new_ hwg hge k (.int .i64 (hd + k)))
                  clear hrow hK hpush
                  go_wp2_with fail
                  go_roundg (n - (k + 1))
                  case measure => omega
                  case rel => exact ⟨k + 1, by omega, rfl, by go_num, HP.out, HKR.out⟩
                · obtain rfl : k = n := by omega
                  have hki : ¬ (k : Int) < (k : Int) := by omega
                  obtain ⟨⟨d0, d1, d2, d3, d4, d5, d6⟩, ⟨e3, e4, e5, e6⟩⟩ := hK.1.all
                  simp only [Snd.withTop, Snd.withSent] at d0 d1 d2 d3 d4 d5 d6
                  have hlg := hK.lt
                  have HKR := Lib.hid hK
                  have HRW := Lib.hid hrow
                  clear hrow hK
                  go_wp2_with fail
                  go_ret
                  have hrow2 : IRow .i64 3 ((wr.setCell ⟨g, 4, none⟩ (.int .i64 (hd + k))).setCell ⟨g, 6, none⟩ (.int .i64 now)) we.heap.size k (upList hd k) := (HRW.out.grown (only_set (only_refl wr (some g)) 4 _) (by simpa using fun e => hge e.symm)).grown (only_set (only_refl _ (some g)) 6 _) (by simpa using fun e => hge e.symm)
                  have hK2 := (HKR.out.set_ 4 (.int .i64 (hd + k)) (s' := (s.withTop (max s.top next)).withSent (hd + k)) rfl).set_ 6 (.int .i64 now) (s' := ((s.withTop (max s.top next)).withSent (hd + k)).withSince now) rfl
                  have hL : s.list now next = upList hd k := by unfold Snd.list; rw [HMN.out, HHD.out]
                  refine ⟨_, rfl, ?_, ?_, ?_, by rw [HS0.out]; exact hK2.1, hK2.2⟩
                  · rw [hL]
                    exact ⟨some ⟨we.heap.size, 0, none⟩, k, by rw [upList_len]; rfl, hrow2.at_⟩
                  · rw [HMN.out]
                    exact .inr ⟨we.heap.size, k, rfl, Nat.le_refl _, by omega, hrow2.bare⟩
                  · intro b hb
                    cases hb
                    exact hwg

set_option maxRecDepth 100000 in
set_option maxHeartbeats 2000000 in
theorem rsend_yes (g : Nat) (s : Snd) (now next : Int) (w : World) (h : SB 40 w g s) (hok : s.Ok) (hn : sendOk now next) :
    Calls Try.prog 12 #[.pointer (some ⟨g, 0, none⟩), .int .i64 now, .int .i64 next] w (SendBack 40 g s now next w) := by
  obtain ⟨i0, hi0, hz0, hz1, hz2⟩ := info_parts infoI
  have h0 : ¬ now < 0 := by unfold sendOk at hn; omega
  have h1 : ¬ 1099511627776 < now := by unfold sendOk at hn; omega
  have h2 : ¬ 1099511627776 < next := by unfold sendOk at hn; omega
  obtain ⟨o1, o2, o3, o4, o5, o6, o7, o8, o9, o10, o11⟩ := id hok
  obtain ⟨hh1, hh2⟩ := head_facts s hok now
  have hif := head_if s now
  have HSE := Lib.hid (show s.send now next = if s.head now < s.upto next then ⟨s.win, s.res, s.ep, s.base, s.upto next, max s.top next, now⟩ else ⟨s.win, s.res, s.ep, s.base, s.head now, max s.top next, s.since⟩ by unfold Snd.send; rw [if_pos hn])
  have HMA := Lib.hid (show s.many now next = (s.upto next - s.head now).toNat by unfold Snd.many; rw [if_pos hn])
  have HUP := Lib.hid (show s.upto next = min next (s.base + s.win) from rfl)
  have HK := Lib.hid (show Kept1 40 g s w w from ⟨h, only_refl _ _⟩)
  have HIF := Lib.hid hif
  obtain ⟨hd, hhd⟩ : ∃ hd, hd = s.head now := ⟨_, rfl⟩
  have HHD := Lib.hid hhd
  rw [← hhd] at hh1 hh2
  have hlt0 := Blk.lt h
  clear h hif hhd hok
  obtain ⟨⟨_, c1, c2, c3, c4, c5, c6⟩, ⟨f3, f4, f5, f6⟩⟩ := HK.out.1.all
  go_enter Try.func12, Try.ntmps12
  go_upto_if 23 with fail
  go_cut [] (fun wx => Kept1 40 g (s.withTop (max s.top next)) w wx)
  case first =>
    by_cases hm : s.top < next
    · have HM := Lib.hid (show max s.top next = next by omega)
      go_wp2_with fail
      go_meet
      rw [HM.out]
      exact HK.out.set_ 5 _ rfl
    · have HM := Lib.hid (show max s.top next = s.top by omega)
      go_wp2_with fail
      go_meet
      rw [HM.out]
      exact HK.out
  case rest =>
    obtain ⟨wa, rfl⟩ : ∃ wa : World, wa = wc := ⟨_, rfl⟩
    have HA := Lib.hid hcut
    have hlta := hcut.lt
    clear hcut HK c1 c2 c3 c4 c5 c6 f3 f4 f5 f6
    go_upto_region 5 with fail
    go_cut [49] (fun s47 wx => s47 = .bool (s.again now) ∧ Kept1 40 g (s.withTop (max s.top next)) w wx)
    case first =>
      obtain ⟨⟨_, c1, c2, c3, c4, c5, c6⟩, ⟨f3, f4, f5, f6⟩⟩ := HA.out.1.all
      simp only [Snd.withTop] at c1 c2 c3 c4 c5 c6
      have hw1 : IntKind.i64.wrap (now - s.since) = now - s.since := IntWalk.i64_in _ (by omega)
      by_cases b1 : s.base < s.sent
      · by_cases b2 : s.res ≤ now - s.since
        · have HG := Lib.hid (show s.again now = true from decide_eq_true ⟨b1, by omega⟩)
          go_quiet (fail)
          go_wp2_with fail
          go_meet
          exact ⟨by rw [HG.out], HA.out.drewN _⟩
        · have HG := Lib.hid (show s.again now = false from decide_eq_false (fun h => b2 (by omega)))
          have b2' : decide (s.res ≤ now - s.since) = false := decide_eq_false b2
          go_quiet (fail)
          go_wp2_with fail
          go_meet
          exact ⟨by rw [HG.out], HA.out.drewN _⟩
      · have HG := Lib.hid (show s.again now = false from decide_eq_false (fun h => b1 h.1))
        have b1' : decide (s.base < s.sent) = false := decide_eq_false b1
        go_quiet (fail)
        go_wp2_with fail
        go_meet
        exact ⟨by rw [HG.out], HA.out.drewN _⟩
    case rest =>
      obtain ⟨rfl, hK⟩ := hcut
      obtain ⟨wb, rfl⟩ : ∃ wb : World, wb = wc := ⟨_, rfl⟩
      have HB := Lib.hid hK
      have hltb := hK.lt
      clear hK HA
      go_upto_if 49 with fail
      go_cut [] (fun wx => Kept1 40 g ((s.withTop (max s.top next)).withSent hd) w wx)
      case first =>
        obtain ⟨⟨_, c1, c2, c3, c4, c5, c6⟩, ⟨f3, f4, f5, f6⟩⟩ := HB.out.1.all
        simp only [Snd.withTop] at c1 c2 c3 c4 c5 c6
        obtain ⟨ag, hag⟩ : ∃ ag, ag = s.again now := ⟨_, rfl⟩
        have HAG := Lib.hid hag
        rw [← hag]
        clear hag
        cases ag with
        | true =>
          have HD := Lib.hid (show hd = s.base by rw [HHD.out, HIF.out, if_pos HAG.out.symm])
          go_wp2_with fail
          go_meet
          rw [HD.out]
          exact HB.out.set_ 4 _ rfl
        | false =>
          have HD := Lib.hid (show hd = s.sent by rw [HHD.out, HIF.out, ← HAG.out, if_neg (by simp)])
          go_wp2_with fail
          go_meet
          rw [HD.out]
          exact HB.out
      case rest =>
        obtain ⟨wd, rfl⟩ : ∃ wd : World, wd = wc := ⟨_, rfl⟩
        have HC := Lib.hid hcut
        clear hcut HB
        obtain ⟨n, hn⟩ : ∃ n : Nat, n = s.many now next := ⟨_, rfl⟩
        have hnn : (n : Int) = max 0 (s.upto next - hd) := by rw [hn, HMA.out, ← HHD.out]; omega
        rw [HUP.out] at hnn
        have hnB : (n : Int) ≤ 16 := by omega
        have HN := Lib.hid hn
        have HNN := Lib.hid hnn
        clear hn hnn
        have HK0 := Lib.hid (show Kept1 40 g (((s.withTop (max s.top next)).withSent (hd + (0 : Nat))).withSince (if (0 : Nat) = 0 then s.since else now)) w wd by
          have := HC.out
          simpa [Snd.withTop, Snd.withSent, Snd.withSince] using this)
        clear HC
        go_wp2_with fail
        go_loopg [7] n (fun gg ov wr => ∃ k : Nat, k ≤ n ∧ gg = n - k ∧ OwnG (IsIntK .i64) wr w.heap.size 3 1 ov (upList hd k).length ((upList hd k).map (Value.int .i64)) ∧ Kept1 40 g (((s.withTop (max s.top next)).withSent (hd + k)).withSince (if k = 0 then s.since else now)) w wr)
        case atStart => exact ⟨0, Nat.zero_le _, rfl, OwnG.nil_ _ _ _ 1, HK0.out⟩
        case round =>
          obtain ⟨k, hk, rfl, hown, hK⟩ := hrel
          obtain ⟨wz, rfl⟩ : ∃ wz : World, wz = wr := ⟨_, rfl⟩
          obtain ⟨⟨d0, d1, d2, d3, d4, d5, d6⟩, ⟨e3, e4, e5, e6⟩⟩ := hK.1.all
          simp only [Snd.withTop, Snd.withSent, Snd.withSince] at d0 d1 d2 d3 d4 d5 d6
          have hlg := hK.lt
          have hw1 : IntKind.i64.wrap (s.base + s.win) = s.base + s.win := IntWalk.i64_in _ (by omega)
          have HO := Lib.hid hown
          have HK := Lib.hid hK
          clear hown hK
          go_upto_region 8 with fail
          go_cut [78] (fun s78 wx => s78 = .bool (decide (k < n)) ∧ OwnG (IsIntK .i64) wx w.heap.size 3 1 u7 (upList hd k).length ((upList hd k).map (Value.int .i64)) ∧ Kept1 40 g (((s.withTop (max s.top next)).withSent (hd + k)).withSince (if k = 0 then s.since else now)) w wx)
          case first =>
            by_cases hlt : k < n
            · have t1 : hd + (k : Int) < next := by have := HNN.out; omega
              have t2 : hd + (k : Int) < s.base + s.win := by have := HNN.out; omega
              have HT := Lib.hid (decide_eq_true hlt)
              clear hlt
              go_quiet (fail)
              go_wp2_with fail
              go_meet
              exact ⟨by rw [HT.out], HO.out.below (below_drewN (Below.refl _ _) _), HK.out.drewN _⟩
            · have HT := Lib.hid (decide_eq_false hlt)
              have ht : ¬ hd + (k : Int) < next ∨ (hd + (k : Int) < next ∧ ¬ hd + (k : Int) < s.base + s.win) := by have := HNN.out; omega
              clear hlt
              rcases ht with t1 | ⟨t1, t2⟩
              · have t1' : decide (hd + (k : Int) < next) = false := decide_eq_false t1
                go_quiet (fail)
                go_wp2_with fail
                go_meet
                exact ⟨by rw [HT.out], HO.out.below (below_drewN (Below.refl _ _) _), HK.out.drewN _⟩
              · have t2' : decide (hd + (k : Int) < s.base + s.win) = false := decide_eq_false t2
                go_quiet (fail)
                go_wp2_with fail
                go_meet
                exact ⟨by rw [HT.out], HO.out.below (below_drewN (Below.refl _ _) _), HK.out.drewN _⟩
          case rest =>
            obtain ⟨rfl, hown, hK⟩ := hcut
            obtain ⟨we, rfl⟩ : ∃ we : World, we = wc := ⟨_, rfl⟩
            obtain ⟨⟨d0', d1', d2', d3', d4', d5', d6'⟩, ⟨e3', e4', e5', e6'⟩⟩ := hK.1.all
            simp only [Snd.withTop, Snd.withSent, Snd.withSince] at d0' d1' d2' d3' d4' d5' d6'
            have hle := hK.lt
            have hwe := hK.2.size
            clear HO HK d0 d1 d2 d3 d4 d5 d6 e3 e4 e5 e6
            by_cases hlt : k < n
            · have HTD := Lib.hid (decide_eq_true hlt)
              have k3 : (upList hd k).length + 1 ≤ maxLen := by rw [upList_len]; unfold maxLen; omega
              have k4 : ((upList hd k).length + 1) * 8 ≤ 140737488355328 := by rw [upList_len]; omega
              have k5 : w.heap.size ≤ (we.alloc (.cells #[.int .i64 (hd + (k : Int))] 3)).heap.size := by simp; omega
              have K2 := Lib.hid (ints_one .i64 (hd + (k : Int)))
              have HGX := Lib.hid (ints_all .i64 (upList hd k))
              have HOW := Lib.hid (hown.alloc (.cells #[.int .i64 (hd + (k : Int))] 3))
              have HKA := Lib.hid (hK.alloc (.cells #[.int .i64 (hd + (k : Int))] 3))
              have HNE := Lib.hid (own_ne_type hown hK.1 (by decide))
              have HOL := Lib.hid hown.1.lt
              obtain ⟨W1, hW1⟩ : ∃ W1, W1 = we.alloc (.cells #[.int .i64 (hd + (k : Int))] 3) := ⟨_, rfl⟩
              have hki : (k : Int) < (n : Int) := by omega
              clear hown hK hW1 W1
              rw [HTD.out]
              go_wp2_with (at_builtin; refine wpList_append_G _ rfl (.tmp 79) (.tmp 84) 33 rfl (IsIntK .i64) w.heap.size 3 i0 _ 1 8 Try.underlying33 hi0 hz0 hz1 hz2 rfl (by omega) _ (upList hd k).length ((upList hd k).map (Value.int .i64)) rfl HOW.out ⟨we.heap.size, 0, none⟩ 1 1 [.int .i64 (hd + (k : Int))] rfl rfl (World.news_of_block (cs := #[.int .i64 (hd + (k : Int))]) (t := 3) (fr := (0, 0)) (heap_alloc_new we _)) K2.out.1 k3 k4 k5 (zero_intK .i64) K2.out.2 HGX.out ?_; intro v' w3 hown3 hgrow; have hne3 : some g ≠ (u7 : Value).ownBlock := HNE.out; have HK3 := Lib.hid (show Kept1 40 g (((s.withTop (max s.top next)).withSent (hd + k)).withSince (if k = 0 then s.since else now)) w w3 from ⟨Blk.grown HKA.out.1 hgrow hne3, only_own HKA.out.2 hgrow (fun b e => (HOL.out b e).1)⟩); have hq := HK3.out.1.all; simp only [Snd.withTop, Snd.withSent, Snd.withSince] at hq; obtain ⟨⟨q0, q1, q2, q3, q4, q5, q6⟩, ⟨r3, r4, r5, r6⟩⟩ := hq; have hl3 := HK3.out.lt; have HO3 := Lib.hid hown3; clear hown3 hgrow hne3 d0' d1' d2' d3' d4' d5' d6' e3' e4' e5' e6')
              go_roundg (n - (k + 1))
              case measure => omega
              case rel =>
                refine ⟨k + 1, by omega, rfl, ?_, ?_⟩
                · rw [upList_succ, List.length_append, List.map_append]
                  have hne := own_ne_type HO3.out HK3.out.1 (by decide)
                  exact (HO3.out.far hne 4 _).far hne 6 _
                · rw [show ((k + 1 : Nat) : Int) = (k : Int) + 1 by omega, if_neg (by omega), ← Int.add_assoc]
                  exact (HK3.out.set_ 4 (.int .i64 (hd + k + 1)) (s' := ((s.withTop (max s.top next)).withSent (hd + k + 1)).withSince (if k = 0 then s.since else now)) rfl).set_ 6 (.int .i64 now) rfl
            · obtain rfl : k = n := by omega
              have HTD := Lib.hid (decide_eq_false hlt)
              rw [HTD.out]
              have HO4 := Lib.hid hown
              have HK4 := Lib.hid hK
              clear hown hK
              go_wp2_with fail
              go_ret
              have hL : s.list now next = upList hd k := by unfold Snd.list; rw [← HN.out, HHD.out]
              have hS : s.send now next = ((s.withTop (max s.top next)).withSent (hd + k)).withSince (if k = 0 then s.since else now) := by
                have h1 := HNN.out
                rw [HSE.out, ← HHD.out]
                by_cases hz : k = 0
                · rw [if_neg (by rw [HUP.out]; omega), if_pos hz, hz]
                  simp [Snd.withTop, Snd.withSent, Snd.withSince]
                · rw [if_pos (by rw [HUP.out]; omega), if_neg hz, show s.upto next = hd + k by rw [HUP.out]; omega]
                  rfl
              refine ⟨_, rfl, ?_, ?_, ?_, by rw [hS]; exact HK4.out.1, HK4.out.2⟩
              · rw [hL]
                exact reads_of_own HO4.out
              · rw [← HN.out]
                have := row_of_own HO4.out
                rw [upList_len] at this
                exact this
              · intro b hb
                exact base_of_own HO4.out hb
end Go.Proofs.Ytihgcdggffidlaa
