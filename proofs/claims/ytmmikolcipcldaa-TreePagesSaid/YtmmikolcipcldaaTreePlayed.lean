/-
  What is proved here: keys put into a tree and into entries (played; chapter 15). Conditions: each theorem's own.
-/
import Derived.Test.YtmmikolcipcldaaTreeRefPut
namespace Go.Proofs.Ytmmikolcipcldaa
open Go.RowKit Go.Deep

/-- what a tree's Put leaves of other types' blocks. -/
theorem Has.putK {n tr d : Nat} {w W : World} {es : List En} (h : Has n w tr d es W) (hd2 : 2 ≤ d) (hd : d ≤ 16) (hl : es.length ≤ 1000000) (t s v : Int) : Calls Try.prog 32 #[.pointer (some ⟨tr, 0, none⟩), .agg #[.int .i64 t, .int .i64 s], .int .i64 v] W
    fun e w' => e = .returned (.bool (!hasE ⟨t, s⟩ es)) ∧ Has n w tr d (insE ⟨t, s⟩ v es) w' ∧ ∀ (g : Nat) (cs : Array Value) (t : TypeId) (f : Nat × Nat), W.heap[g]? = some (.cells cs t f) → t ∉ [82, 24, 3, 69, 71] → w'.heap[g]? = W.heap[g]? := by
  obtain ⟨M, hM⟩ := h.tree
  refine (put_any ⟨t, s⟩ v hd2 hd hM hl).mono ?_
  rintro e w' ⟨rfl, M', h1, h2⟩
  refine ⟨rfl, ⟨⟨M', h1⟩, h2.below hM.th h.bel h.low (by have := h.low; omega) h.size, h.low⟩, fun g cs t f hg ht => (h2.free g ?_ ?_ ?_).2⟩
  · rcases Nat.lt_or_ge g W.heap.size with hlt | hge
    · exact hlt
    · rw [Array.getElem?_eq_none hge] at hg; cases hg
  · rw [List.mem_singleton]
    rintro rfl
    obtain ⟨root, hr, _⟩ := hM.at_
    have := blk_type hg hr
    subst this
    exact ht (by simp)
  · exact hM.th.free_type hg (fun hm => ht (by simp only [List.mem_cons, List.not_mem_nil, or_false] at hm ⊢; rcases hm with h | h | h | h <;> simp [h]))
theorem OwnE.held {base : Nat} {W W' : World} {v : Value} {es : List En} (h : OwnE base W v es) (hk : ∀ (g : Nat) (cs : Array Value) (f : Nat × Nat), W.heap[g]? = some (.cells cs 44 f) → W'.heap[g]? = W.heap[g]?) : OwnE base W' v es := by
  obtain ⟨hl, h1 | ⟨g, cap, cur, rfl, hg, hb, h2⟩⟩ := h
  · exact ⟨hl, .inl h1⟩
  · exact ⟨hl, .inr ⟨g, cap, cur, rfl, hg, (hk g _ _ hb).trans hb, h2⟩⟩

/-- a key that is put, or asked for. -/
structure OpR where
  kind : Int
  val : Int
  key : Ky
def o0 : OpR := ⟨0, 0, k0⟩
/-- a slice of them, as it reads. -/
def OpsAt (W : World) (v : Value) (l : List OpR) : Prop :=
  ∃ A c, v = .slice A l.length c ∧ l.length ≤ c ∧ (0 < l.length → ∃ g o, A = some ⟨g, o, none⟩ ∧ g < W.heap.size ∧ ∀ i, i < l.length →
    W.cell? ⟨g, o + i * 4, none⟩ = some (.int .i64 (l.getD i o0).kind) ∧ W.cell? ⟨g, o + i * 4 + 1, none⟩ = some (.int .i64 (l.getD i o0).val) ∧ W.cell? ⟨g, o + i * 4 + 2, none⟩ = some (.int .i64 (l.getD i o0).key.t) ∧ W.cell? ⟨g, o + i * 4 + 3, none⟩ = some (.int .i64 (l.getD i o0).key.s))
/-- the entries behind so many of them. -/
def playE (l : List OpR) : Nat → List En
  | 0 => []
  | i + 1 => if ((l.getD i o0).kind.tmod 2 == 0) = true then insE (l.getD i o0).key (l.getD i o0).val (playE l i) else playE l i
theorem playE_up (l : List OpR) : ∀ i, Up (playE l i)
  | 0 => List.Pairwise.nil
  | i + 1 => by
    unfold playE
    split
    · exact (insE_up (playE_up l i)).1
    · exact playE_up l i
theorem playE_len (l : List OpR) : ∀ i, (playE l i).length ≤ i
  | 0 => Nat.le_refl _
  | i + 1 => by
    have h2 := playE_len l i
    unfold playE
    split
    · rw [insE_len _ _ _ (playE_up l i)]
      split <;> omega
    · omega

set_option maxRecDepth 100000 in
set_option maxHeartbeats 1000000 in
theorem played_any {w : World} {v : Value} {l : List OpR} {d : Nat} (hd2 : 2 ≤ d) (hd : d ≤ 16) (hl : OpsAt w v l) (hlen : l.length ≤ 140737488351232) :
    Calls Try.prog 12 #[.int .i64 d, v] w fun e w' => ∃ tr r, e = .returned (.tuple #[.pointer (some ⟨tr, 0, none⟩), r, .bool true]) ∧ Has w.heap.size w tr d (playE l (min l.length 600)) w' ∧ EnsAt w' r (playE l (min l.length 600)) := by
  obtain ⟨A, c, rfl, hc, hA⟩ := hl
  have HA := Lib.hid (show 0 < l.length → ∃ g o, A = some ⟨g, o, none⟩ ∧ ∀ W, Below w.heap.size w W → ∀ i, i < l.length →
    W.cell? ⟨g, o + i * 4, none⟩ = some (.int .i64 (l.getD i o0).kind) ∧ W.cell? ⟨g, o + i * 4 + 1, none⟩ = some (.int .i64 (l.getD i o0).val) ∧ W.cell? ⟨g, o + i * 4 + 2, none⟩ = some (.int .i64 (l.getD i o0).key.t) ∧ W.cell? ⟨g, o + i * 4 + 3, none⟩ = some (.int .i64 (l.getD i o0).key.s) from fun hp => by
    obtain ⟨g, o, h1, h2, h3⟩ := hA hp
    refine ⟨g, o, h1, fun W hb i hi => ?_⟩
    have e := fun j => hb.cell (p := ⟨g, j, none⟩) h2
    rw [e, e, e, e]
    exact h3 i hi)
  clear hA
  have HN := Lib.hid (show ∀ W, Calls Try.prog 10 #[.int .i64 d] W fun e w' => e = .returned (.tuple #[.pointer (some ⟨W.heap.size, 0, none⟩), .int .i64 0]) ∧ Has W.heap.size W W.heap.size d [] w' from fun W => (new_any d W hd2 hd).mono fun e w' h => ⟨h.1, Has.new h.2 (Below.refl _ _) (Nat.le_refl _)⟩)
  go_enter Try.func12, Try.ntmps12
  go_upto_region 1 with fail
  go_cut [7, 8, 18, 19, 20, 21, 22] (fun s5 s6 _ _ _ _ _ wx => ∃ tr, s5 = .pointer (some ⟨tr, 0, none⟩) ∧ s6 = .int .i64 0 ∧ Has w.heap.size w tr d [] wx)
  case first =>
    go_wp2_with (go_at_call 10; (with_reducible refine Calls.mono (HN.out _) ?_); rintro e w1 ⟨rfl, hH⟩)
    go_meet
    exact ⟨_, rfl, rfl, hH⟩
  obtain ⟨tr, rfl, rfl, hH⟩ := hcut
  obtain ⟨wx, rfl⟩ : ∃ wq : World, wq = wc := ⟨_, rfl⟩
  have HH := Lib.hid hH
  clear hH HN
  go_wp2_with fail
  go_loopg [9, 10] (min l.length 600) (fun g v i wr => ∃ x : Nat, x ≤ min l.length 600 ∧ g = min l.length 600 - x ∧ i = .int .i64 x ∧ Has w.heap.size w tr d (playE l x) wr ∧ ∃ base, OwnE base wr v (playE l x))
  case atStart => exact ⟨0, Nat.zero_le _, rfl, rfl, HH.out, 0, OwnE.nil _ _⟩
  case round =>
    clear HH
    obtain ⟨x, hx, rfl, rfl, hH, base, hO⟩ := hrel
    by_cases hlt : x < min l.length 600
    · have hki : (x : Int) < (l.length : Int) := by omega
      have hk6 : (x : Int) < 600 := by omega
      have hk0 : (0 : Int) ≤ (x : Int) := by omega
      obtain ⟨g, o, rfl, hcell⟩ := HA.out (by omega)
      obtain ⟨⟨kd, vl, ⟨kt, kk⟩⟩, hop⟩ : ∃ p, p = l.getD x o0 := ⟨_, rfl⟩
      obtain ⟨c0, c1, c2, c3⟩ := hcell wr hH.bel x (by omega)
      rw [← hop] at c0 c1 c2 c3
      have HO := Lib.hid hO
      have HH := Lib.hid hH
      have HOP := Lib.hid hop
      clear hO hH hop hcell
      go_upto_region 8 with fail
      go_cut [11] (fun s wz => ∃ b, s = .pointer (some ⟨b, 0, none⟩) ∧ Blk wz b 73 #[.int .i64 kd, .int .i64 vl, .int .i64 kt, .int .i64 kk] ∧ Below wr.heap.size wr wz)
      case first =>
        go_wp2_with fail
        go_meet
        exact ⟨_, rfl, Blk.new _ _ _, by (repeat (first | (with_reducible assumption) | (with_reducible exact Below.refl _ _) | ((with_reducible refine Below.setCell ?_ ?_ _); rotate_left; · (first | omega | (simp; done) | (simp; omega) | (simp at *; omega))) | ((with_reducible refine Below.alloc ?_ ?_ _); rotate_left; · (first | omega | (simp; done) | (simp; omega) | (simp at *; omega))) | (with_reducible refine Below.drew ?_) | (with_reducible refine below_drewN ?_ _) | ((refine Below.trans ?_ (Below.mono (by with_reducible assumption) ?_)); rotate_left; · (first | omega | (simp; done) | (simp; omega) | (simp at *; omega)))))⟩
      clear c0 c1 c2 c3
      obtain ⟨b, rfl, hb, hbx⟩ := hcut
      obtain ⟨wz, rfl⟩ : ∃ wq : World, wq = wc := ⟨_, rfl⟩
      have hH := HH.out.on hbx
      have hO := HO.out.on hbx
      have b0 := hb.cell 0
      clear HH HO hbx
      have hel := playE_len l x
      have hE : playE l (x + 1) = if (kd.tmod 2 == 0) = true then insE ⟨kt, kk⟩ vl (playE l x) else playE l x := by
        show (if _ then _ else _) = _
        rw [← HOP.out]
      go_upto_if 46 with fail
      go_cut [9] (fun s wy => ∃ A9 c9 base, s = .slice A9 (playE l (x + 1)).length c9 ∧ OwnE base wy s (playE l (x + 1)) ∧ Has w.heap.size w tr d (playE l (x + 1)) wy ∧ Blk wy b 73 #[.int .i64 kd, .int .i64 vl, .int .i64 kt, .int .i64 kk])
      case first =>
        by_cases hk : (kd.tmod 2 == 0) = true
        · rw [if_pos hk] at hE
          have HEQ := Lib.hid hE
          obtain ⟨fr, hfr⟩ : ∃ fr, fr = !hasE ⟨kt, kk⟩ (playE l x) := ⟨_, rfl⟩
          have hff : (fr != fr) = false := by simp
          have HRP := Lib.hid (rput_any ⟨kt, kk⟩ vl hO.ens (playE_up l x) (by omega))
          rw [← hfr] at HRP
          have HFR := Lib.hid hfr
          have HH := Lib.hid hH
          have HB := Lib.hid hb
          have b1 := hb.cell 1
          have b2 := hb.cell 2
          have b3 := hb.cell 3
          clear hfr hO hH hb hE
          go_upto_region 11 with (go_at_call 33; (with_reducible refine Calls.mono HRP.out ?_); rintro e w1 ⟨r, rfl, ⟨base', hO1⟩, hb1⟩)
          have hH := HH.out.on hb1
          have hB := HB.out.below hb1 HB.out.lt
          clear HH HB HRP b0 b1 b2 b3
          have b1 := hB.cell 1
          have b2 := hB.cell 2
          have b3 := hB.cell 3
          have HPT := Lib.hid (hH.putK hd2 hd (by omega) kt kk vl)
          rw [← HFR.out] at HPT
          have HB := Lib.hid hB
          have HO := Lib.hid hO1
          clear hH hB hO1 hb1
          go_wp2_with (go_at_call 32; (with_reducible refine Calls.mono HPT.out ?_); rintro e w2 ⟨rfl, hH2, hkeep⟩)
          go_meet
          have hO2 := HO.out.held (fun g cs f hg => hkeep g cs _ f hg (by decide))
          obtain ⟨A9, c9, hs9, _⟩ := hO2.ens
          rw [HEQ.out]
          exact ⟨A9, c9, base', hs9, hO2, hH2, (hkeep b _ _ _ HB.out (by decide)).trans HB.out⟩
        · rw [if_neg hk] at hE
          have HEQ := Lib.hid hE
          have hk' : (kd.tmod 2 == 0) = false := by simpa using hk
          have HH := Lib.hid hH
          have HB := Lib.hid hb
          have HO := Lib.hid hO
          clear hH hb hO hE hk
          go_wp2_with fail
          go_meet
          obtain ⟨A9, c9, hs9, _⟩ := HO.out.ens
          rw [HEQ.out]
          exact ⟨A9, c9, base, hs9, HO.out, HH.out, HB.out⟩
      clear hH hO hb hE b0
      obtain ⟨A9, c9, base', rfl, hO, hH, hb⟩ := hcut
      obtain ⟨wy, rfl⟩ : ∃ wq : World, wq = wc := ⟨_, rfl⟩
      have hel2 := playE_len l (x + 1)
      obtain ⟨es1, hes1⟩ : ∃ es1, es1 = playE l (x + 1) := ⟨_, rfl⟩
      rw [← hes1] at hO hH hel2 ⊢
      have HE1 := Lib.hid hes1
      clear hes1 hel
      obtain ⟨vq, hvq⟩ : ∃ vq, valE ⟨kt, kk⟩ es1 = vq := ⟨_, rfl⟩
      obtain ⟨hq, hhq⟩ : ∃ hq, hasE ⟨kt, kk⟩ es1 = hq := ⟨_, rfl⟩
      have HGT := Lib.hid (hH.getIs hd hvq hhq)
      have b2 := hb.cell 2
      have b3 := hb.cell 3
      have HH := Lib.hid hH
      have HB := Lib.hid hb
      have HO := Lib.hid hO
      have HVQ := Lib.hid (And.intro hvq hhq)
      clear hH hb hO hvq hhq
      go_upto_region 15 with (go_at_call 21; (with_reducible refine Calls.mono HGT.out ?_); rintro e w1 ⟨rfl, hb1⟩)
      have hH := HH.out.on hb1
      have hB := HB.out.below hb1 HB.out.lt
      have hO := HO.out.on hb1
      clear HH HB HO HGT b2 b3 hb1
      have b2 := hB.cell 2
      have b3 := hB.cell 3
      have HRG := Lib.hid (rget_any ⟨kt, kk⟩ hO.ens (by omega))
      rw [HVQ.out.1, HVQ.out.2] at HRG
      have HH := Lib.hid hH
      have HO := Lib.hid hO
      clear hH hB hO
      go_upto_region 16 with (go_at_call 34; (with_reducible refine Calls.mono HRG.out ?_); rintro e w2 ⟨rfl, hb2⟩)
      have hH := HH.out.on hb2
      have hO := HO.out.on hb2
      clear HH HO HRG b2 b3 hb2
      have HLN := Lib.hid hH.len
      have HH := Lib.hid hH
      have HO := Lib.hid hO
      clear hH hO
      go_wp2_with (go_at_call 28; (with_reducible refine Calls.mono HLN.out ?_); rintro e w3 ⟨rfl, rfl⟩)
      go_roundg (min l.length 600 - (x + 1))
      case measure => omega
      case rel => exact ⟨x + 1, by omega, rfl, by go_num, by rw [← HE1.out]; exact HH.out, base', by rw [← HE1.out]; exact HO.out⟩
    · have hx6 : x = min l.length 600 := by omega
      have HX6 := Lib.hid hx6
      have HH := Lib.hid hH
      have HO := Lib.hid hO
      clear hH hO hx6
      by_cases hxl : x < l.length
      · have hki : (x : Int) < (l.length : Int) := by omega
        have hk6 : ¬ (x : Int) < 600 := by omega
        go_wp2_with fail
        go_ret3
        exact ⟨tr, _, rfl, by rw [← HX6.out]; exact HH.out, by rw [← HX6.out]; exact HO.out.ens⟩
      · have hki : ¬ (x : Int) < (l.length : Int) := by omega
        go_wp2_with fail
        go_ret3
        exact ⟨tr, _, rfl, by rw [← HX6.out]; exact HH.out, by rw [← HX6.out]; exact HO.out.ens⟩
end Go.Proofs.Ytmmikolcipcldaa
