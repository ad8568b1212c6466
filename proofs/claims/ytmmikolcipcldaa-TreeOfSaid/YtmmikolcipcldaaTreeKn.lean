/-
  What is proved here: the law's own example of three keys (known) answers true (chapter 15). Conditions: each theorem's own.
-/
import Derived.Test.YtmmikolcipcldaaTreeSmall
namespace Go.Proofs.Ytmmikolcipcldaa
open Go.RowKit Go.Deep

/-- a tree of the call's own. -/
structure Has (n : Nat) (w : World) (tr d : Nat) (es : List En) (W : World) : Prop where
  tree : ∃ M, Tree (tr + 1) W M tr d es
  bel : Below n w W
  low : n ≤ tr
section
variable {n tr d : Nat} {w W W' : World} {es : List En}
theorem Tree.on {B : Nat} {M : Nat → Option Pg} (h : Tree B W M tr d es) (hb : Below W.heap.size W W') : Tree B W' M tr d es := by
  obtain ⟨h1, h2, h3, h4, root, h5, h6⟩ := h
  exact ⟨h1.on hb, Nat.le_trans h2 hb.size, h3, h4, root, Blk.below h5 hb (Blk.lt h5), h6⟩
theorem Has.size (h : Has n w tr d es W) : n ≤ W.heap.size := by
  obtain ⟨M, hM⟩ := h.tree
  have := hM.size
  have := h.low
  omega
theorem Has.on (h : Has n w tr d es W) (hb : Below W.heap.size W W') : Has n w tr d es W' := by
  obtain ⟨M, hM⟩ := h.tree
  exact ⟨⟨M, hM.on hb⟩, h.bel.trans (hb.mono h.size), h.low⟩
theorem Has.drew (h : Has n w tr d es W) : Has n w tr d es W.drew := h.on (Below.refl _ _).drew
theorem Has.drewN (h : Has n w tr d es W) (m : Nat) : Has n w tr d es (W.drewN m) := h.on (below_drewN (Below.refl _ _) m)
theorem Fr.below {M M' : Nat → Option Pg} {B : Nat} (h : Fr [tr] M W M' W') (hth : TH B W M) (hb : Below n w W) (h1 : n ≤ tr) (h2 : n ≤ B) (h3 : n ≤ W.heap.size) : Below n w W' :=
  ⟨h.os.trans hb.os, h.tape.trans hb.tape, h.output.trans hb.output, Nat.le_trans hb.size h.size, fun k hk => (h.free k (by omega) (by simp only [List.mem_singleton]; omega) (hth.free_low (by omega))).2.trans (hb.block k hk)⟩
theorem Has.new (hw : W' = W.alloc (.cells #[.int .i64 d, .pointer none, .int .i64 0] 71)) (hb : Below n w W) (hn : n ≤ W.heap.size) : Has n w W.heap.size d [] W' :=
  ⟨⟨_, new_tree hw⟩, by rw [hw]; exact hb.alloc hn _, hn⟩
theorem Has.put (h : Has n w tr d es W) (hd2 : 2 ≤ d) (hd : d ≤ 16) (hl : es.length ≤ 1000000) (t s v : Int) : Calls Try.prog 32 #[.pointer (some ⟨tr, 0, none⟩), .agg #[.int .i64 t, .int .i64 s], .int .i64 v] W fun e w' => e = .returned (.bool (!hasE ⟨t, s⟩ es)) ∧ Has n w tr d (insE ⟨t, s⟩ v es) w' := by
  obtain ⟨M, hM⟩ := h.tree
  refine (put_any ⟨t, s⟩ v hd2 hd hM hl).mono ?_
  rintro e w' ⟨rfl, M', h1, h2⟩
  exact ⟨rfl, ⟨M', h1⟩, h2.below hM.th h.bel h.low (by have := h.low; omega) h.size, h.low⟩
theorem Has.putTo (h : Has n w tr d es W) (hd2 : 2 ≤ d) (hd : d ≤ 16) (hl : es.length ≤ 1000000) {t s v : Int} {b : Bool} {es' : List En} (h1 : hasE ⟨t, s⟩ es = !b) (h2 : insE ⟨t, s⟩ v es = es') : Calls Try.prog 32 #[.pointer (some ⟨tr, 0, none⟩), .agg #[.int .i64 t, .int .i64 s], .int .i64 v] W fun e w' => e = .returned (.bool b) ∧ Has n w tr d es' w' := by
  subst h2
  refine (h.put hd2 hd hl t s v).mono ?_
  rintro e w' ⟨rfl, h⟩
  exact ⟨by rw [h1, Bool.not_not], h⟩
theorem Has.get (h : Has n w tr d es W) (hd : d ≤ 16) (t s : Int) : Calls Try.prog 21 #[.pointer (some ⟨tr, 0, none⟩), .agg #[.int .i64 t, .int .i64 s]] W fun e w' => e = .returned (.tuple #[.int .i64 (valE ⟨t, s⟩ es), .bool (hasE ⟨t, s⟩ es)]) ∧ Below W.heap.size W w' := by
  obtain ⟨M, hM⟩ := h.tree
  exact get_any ⟨t, s⟩ hd hM
theorem Has.getIs (h : Has n w tr d es W) (hd : d ≤ 16) {t s v : Int} {b : Bool} (h1 : valE ⟨t, s⟩ es = v) (h2 : hasE ⟨t, s⟩ es = b) : Calls Try.prog 21 #[.pointer (some ⟨tr, 0, none⟩), .agg #[.int .i64 t, .int .i64 s]] W fun e w' => e = .returned (.tuple #[.int .i64 v, .bool b]) ∧ Below W.heap.size W w' := by
  subst h1 h2
  exact h.get hd t s
theorem Has.len (h : Has n w tr d es W) : Calls Try.prog 28 #[.pointer (some ⟨tr, 0, none⟩)] W fun e w' => e = .returned (.int .i64 es.length) ∧ W = w' := by
  obtain ⟨M, hM⟩ := h.tree
  exact (len_any hM).mono fun e w' h => ⟨h.1, h.2.symm⟩
theorem Has.up (h : Has n w tr d es W) : Up es := by
  obtain ⟨M, hM⟩ := h.tree
  exact hM.up
theorem Has.gathered (h : Has n w tr d es W) (hd : d ≤ 16) (hl : es.length ≤ 1000000) (at_ as_ bt bs : Int) : Calls Try.prog 17 #[.pointer (some ⟨tr, 0, none⟩), .agg #[.int .i64 at_, .int .i64 as_], .agg #[.int .i64 bt, .int .i64 bs]] W
    fun e w' => ∃ v, e = .returned v ∧ EnsAt w' v (ranged ⟨at_, as_⟩ ⟨bt, bs⟩ es) ∧ Below W.heap.size W w' := by
  obtain ⟨M, hM⟩ := h.tree
  obtain ⟨root, h1, h2⟩ := hM.at_
  have hes : Ents d M root es := by
    rcases h2 with h | ⟨p, H, FS, h, hT, _⟩
    · exact .inl h
    · exact .inr ⟨p, H, _, FS, h, hT⟩
  refine (callsIn_wide.1 (gathered_in hd hes hM.up (by omega) ⟨at_, as_⟩ ⟨bt, bs⟩ W hM.th.page h1)).mono ?_
  rintro e w' ⟨v, rfl, ho, hb⟩
  exact ⟨v, rfl, EnsAt.of_own ho rfl, hb⟩
end
def kn1 : List En := [(⟨5, 0⟩, 50)]
def kn2 : List En := [(⟨1, 2⟩, 12), (⟨5, 0⟩, 50)]
def kn3 : List En := [(⟨1, 1⟩, 11), (⟨1, 2⟩, 12), (⟨5, 0⟩, 50)]
def kn4 : List En := [(⟨1, 1⟩, 11), (⟨1, 2⟩, 12), (⟨5, 0⟩, 55)]
def knr : List En := [(⟨1, 2⟩, 12), (⟨5, 0⟩, 55)]
section
variable {n tr : Nat} {w W : World}
theorem kn_new (w : World) : Calls Try.prog 10 #[.int .i64 2] w fun e w' => e = .returned (.tuple #[.pointer (some ⟨w.heap.size, 0, none⟩), .int .i64 0]) ∧ Has w.heap.size w w.heap.size 2 [] w' := by
  refine (new_any 2 w (by omega) (by omega)).mono ?_
  rintro e w1 ⟨rfl, hw1⟩
  exact ⟨rfl, Has.new hw1 (Below.refl _ _) (Nat.le_refl _)⟩
theorem kn_put1 (h : Has n w tr 2 [] W) : Calls Try.prog 32 #[.pointer (some ⟨tr, 0, none⟩), .agg #[.int .i64 5, .int .i64 0], .int .i64 50] W fun e w' => e = .returned (.bool true) ∧ Has n w tr 2 kn1 w' := h.putTo (by omega) (by omega) (by decide) (by decide) (by decide)
theorem kn_put2 (h : Has n w tr 2 kn1 W) : Calls Try.prog 32 #[.pointer (some ⟨tr, 0, none⟩), .agg #[.int .i64 1, .int .i64 2], .int .i64 12] W fun e w' => e = .returned (.bool true) ∧ Has n w tr 2 kn2 w' := h.putTo (by omega) (by omega) (by decide) (by decide) (by decide)
theorem kn_put3 (h : Has n w tr 2 kn2 W) : Calls Try.prog 32 #[.pointer (some ⟨tr, 0, none⟩), .agg #[.int .i64 1, .int .i64 1], .int .i64 11] W fun e w' => e = .returned (.bool true) ∧ Has n w tr 2 kn3 w' := h.putTo (by omega) (by omega) (by decide) (by decide) (by decide)
theorem kn_put4 (h : Has n w tr 2 kn3 W) : Calls Try.prog 32 #[.pointer (some ⟨tr, 0, none⟩), .agg #[.int .i64 5, .int .i64 0], .int .i64 55] W fun e w' => e = .returned (.bool false) ∧ Has n w tr 2 kn4 w' := h.putTo (by omega) (by omega) (by decide) (by decide) (by decide)
theorem kn_get1 (h : Has n w tr 2 kn4 W) : Calls Try.prog 21 #[.pointer (some ⟨tr, 0, none⟩), .agg #[.int .i64 5, .int .i64 0]] W fun e w' => e = .returned (.tuple #[.int .i64 55, .bool true]) ∧ Below W.heap.size W w' := h.getIs (by omega) (by decide) (by decide)
theorem kn_get2 (h : Has n w tr 2 kn4 W) : Calls Try.prog 21 #[.pointer (some ⟨tr, 0, none⟩), .agg #[.int .i64 5, .int .i64 1]] W fun e w' => e = .returned (.tuple #[.int .i64 0, .bool false]) ∧ Below W.heap.size W w' := h.getIs (by omega) (by decide) (by decide)
theorem kn_len (h : Has n w tr 2 kn4 W) : Calls Try.prog 28 #[.pointer (some ⟨tr, 0, none⟩)] W fun e w' => e = .returned (.int .i64 3) ∧ W = w' := h.len
theorem kn_gat (h : Has n w tr 2 kn4 W) : Calls Try.prog 17 #[.pointer (some ⟨tr, 0, none⟩), .agg #[.int .i64 1, .int .i64 2], .agg #[.int .i64 6, .int .i64 0]] W fun e w' => ∃ v, e = .returned v ∧ EnsAt w' v knr ∧ Below W.heap.size W w' :=
  h.gathered (by omega) (by decide) 1 2 6 0
end

theorem ens_lit (W : World) : EnsAt (W.alloc (.cells #[.int .i64 1, .int .i64 2, .int .i64 12, .int .i64 5, .int .i64 0, .int .i64 55] 44)) (.slice (some ⟨W.heap.size, 0, none⟩) 2 2) knr := by
  have hb := Blk.new W 44 #[.int .i64 1, .int .i64 2, .int .i64 12, .int .i64 5, .int .i64 0, .int .i64 55]
  refine ⟨_, 2, rfl, Nat.le_refl _, .inr ⟨_, _, rfl⟩, fun _ => ⟨_, 0, rfl, by simp, fun i hi => ?_⟩⟩
  rcases i with _ | _ | i
  · exact ⟨hb.cell 0, hb.cell 1, hb.cell 2⟩
  · exact ⟨hb.cell 3, hb.cell 4, hb.cell 5⟩
  · exact absurd (show i + 1 + 1 < 2 from hi) (by omega)
set_option maxRecDepth 100000 in
set_option maxHeartbeats 4000000 in
theorem known_any (w : World) : Calls Try.prog 11 #[] w fun e w' => e = .returned (.bool true) ∧ Below w.heap.size w w' := by
  go_enter Try.func11, Try.ntmps11
  go_upto_region 1 with fail
  go_cut [1, 2, 12, 13, 14, 15] (fun s1 s2 _ _ _ _ wx => ∃ tr, s1 = .pointer (some ⟨tr, 0, none⟩) ∧ s2 = .int .i64 0 ∧ Has w.heap.size w tr 2 [] wx)
  case first =>
    go_wp2_with (go_at_call 10; (with_reducible refine Calls.mono (kn_new _) ?_); rintro e w1 ⟨rfl, hH⟩)
    go_meet
    exact ⟨_, rfl, rfl, hH⟩
  obtain ⟨tr, rfl, rfl, hH⟩ := hcut
  obtain ⟨wx, rfl⟩ : ∃ wq : World, wq = wc := ⟨_, rfl⟩
  go_upto_region 4 with fail
  go_cut [3, 4, 5, 6] (fun s3 s4 s5 s6 wy => s3 = .bool true ∧ s4 = .bool true ∧ s5 = .bool true ∧ s6 = .bool false ∧ Has w.heap.size w tr 2 kn4 wy)
  case first =>
    go_wp2_with (go_at_call 26; (with_reducible refine Calls.mono (key_any _ _ _) ?_); rintro e wk ⟨rfl, hbk⟩)
    have hK1 := hH.on hbk
    clear hH hbk
    with_reducible refine Calls.mono (kn_put1 hK1) ?_
    rintro e wp ⟨rfl, hH⟩
    clear hK1
    go_wp2_with (go_at_call 26; (with_reducible refine Calls.mono (key_any _ _ _) ?_); rintro e wk ⟨rfl, hbk⟩)
    have hK2 := hH.on hbk
    clear hH hbk
    with_reducible refine Calls.mono (kn_put2 hK2) ?_
    rintro e wp ⟨rfl, hH⟩
    clear hK2
    go_wp2_with (go_at_call 26; (with_reducible refine Calls.mono (key_any _ _ _) ?_); rintro e wk ⟨rfl, hbk⟩)
    have hK3 := hH.on hbk
    clear hH hbk
    with_reducible refine Calls.mono (kn_put3 hK3) ?_
    rintro e wp ⟨rfl, hH⟩
    clear hK3
    go_wp2_with (go_at_call 26; (with_reducible refine Calls.mono (key_any _ _ _) ?_); rintro e wk ⟨rfl, hbk⟩)
    have hK4 := hH.on hbk
    clear hH hbk
    with_reducible refine Calls.mono (kn_put4 hK4) ?_
    rintro e wp ⟨rfl, hH⟩
    clear hK4
    go_wp2_with fail
    go_meet
    exact ⟨rfl, rfl, rfl, rfl, hH⟩
  clear hH
  obtain ⟨rfl, rfl, rfl, rfl, hH⟩ := hcut
  obtain ⟨wy, rfl⟩ : ∃ wq : World, wq = wc := ⟨_, rfl⟩
  go_upto_region 5 with fail
  go_cut [7, 8] (fun s7 s8 wz => s7 = .int .i64 55 ∧ s8 = .bool true ∧ Has w.heap.size w tr 2 kn4 wz)
  case first =>
    go_wp2_with (go_at_call 26; (with_reducible refine Calls.mono (key_any _ _ _) ?_); rintro e wk ⟨rfl, hbk⟩)
    have hK := hH.on hbk
    clear hH hbk
    with_reducible refine Calls.mono (kn_get1 hK) ?_
    rintro e wp ⟨rfl, hb⟩
    have hH := hK.on hb
    clear hK hb
    go_wp2_with fail
    go_meet
    exact ⟨rfl, rfl, hH⟩
  clear hH
  obtain ⟨rfl, rfl, hH⟩ := hcut
  obtain ⟨wz, rfl⟩ : ∃ wq : World, wq = wc := ⟨_, rfl⟩
  go_upto_region 6 with fail
  go_cut [9, 10] (fun s7 s8 wz => s7 = .int .i64 0 ∧ s8 = .bool false ∧ Has w.heap.size w tr 2 kn4 wz)
  case first =>
    go_wp2_with (go_at_call 26; (with_reducible refine Calls.mono (key_any _ _ _) ?_); rintro e wk ⟨rfl, hbk⟩)
    have hK := hH.on hbk
    clear hH hbk
    with_reducible refine Calls.mono (kn_get2 hK) ?_
    rintro e wp ⟨rfl, hb⟩
    have hH := hK.on hb
    clear hK hb
    go_wp2_with fail
    go_meet
    exact ⟨rfl, rfl, hH⟩
  clear hH
  obtain ⟨rfl, rfl, hH⟩ := hcut
  obtain ⟨wa, rfl⟩ : ∃ wq : World, wq = wc := ⟨_, rfl⟩
  go_upto_region 7 with fail
  go_cut [11] (fun s11 wz => EnsAt wz s11 knr ∧ Has w.heap.size w tr 2 kn4 wz)
  case first =>
    go_wp2_with (go_at_call 26; (with_reducible refine Calls.mono (key_any _ _ _) ?_); rintro e wk ⟨rfl, hbk⟩)
    have hK := Has.on (Has.on hH (by assumption)) hbk
    clear hH hbk
    with_reducible refine Calls.mono (kn_gat hK) ?_
    rintro e wp ⟨vg, rfl, hv, hb⟩
    have hH := hK.on hb
    clear hK hb
    go_wp2_with fail
    go_meet
    exact ⟨hv, hH⟩
  clear hH
  obtain ⟨hv, hH⟩ := hcut
  obtain ⟨wb, rfl⟩ : ∃ wq : World, wq = wc := ⟨_, rfl⟩
  go_wp2_with (first
    | (go_at_call 28; (with_reducible refine Calls.mono (kn_len hH) ?_); rintro e wk ⟨rfl, rfl⟩)
    | (go_at_call 26; (with_reducible refine Calls.mono (key_any _ _ _) ?_); rintro e wk ⟨rfl, hbk⟩))
  have hbb : Below wb.heap.size wb wk := Below.trans (by assumption) (hbk.mono (Below.size (by assumption)))
  have hb2 : Below wb.heap.size wb (wk.alloc (.cells #[.int .i64 1, .int .i64 2, .int .i64 12, .int .i64 5, .int .i64 0, .int .i64 55] 44)) := hbb.alloc hbb.size _
  have hlit := ens_lit wk
  with_reducible refine Calls.mono (same_any (L := knr) (M := knr) (hv.on hb2 (Nat.le_refl _)) hlit (by decide)) ?_
  rintro e wp ⟨rfl, hb3⟩
  have hdec : decide (knr = knr) = true := decide_eq_true rfl
  rw [hdec]
  have hbe : Below w.heap.size w wp := hH.bel.trans ((hb2.trans (hb3.mono hb2.size)).mono hH.size)
  clear hv hH hbk hbb hb2 hlit hb3 hdec
  go_wp2_with fail
  go_ret
  exact ⟨rfl, hbe⟩
end Go.Proofs.Ytmmikolcipcldaa
