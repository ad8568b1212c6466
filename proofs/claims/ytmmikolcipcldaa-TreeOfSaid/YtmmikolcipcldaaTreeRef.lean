/-
  What is proved here: the document's Put, Get and Range of entries (package outstationref15). Conditions: each theorem's own.
-/
import Derived.Test.YtmmikolcipcldaaTreeSortLaws
import Derived.Test.YtmmikolcipcldaaFHeld
import Derived.TacticsInMore
namespace Go.Proofs.Ytmmikolcipcldaa
open Go.RowKit Go.Deep

/-- entries in a row of the call's own. -/
abbrev OwnE (base : Nat) (W : World) (v : Value) (es : List En) : Prop := W.ownsRow base 44 3 v es.length (ecells es)
theorem OwnE.nil (base : Nat) (W : World) : OwnE base W (.slice none 0 0) [] := ⟨by simp [ecells], .inl ⟨rfl, rfl⟩⟩
theorem OwnE.on {base : Nat} {W W' : World} {v : Value} {es : List En} (h : OwnE base W v es) (hb : Below W.heap.size W W') : OwnE base W' v es := by
  refine World.ownsRow.kept (row := none) h ⟨hb.os, hb.tape, hb.output, hb.size, fun k hk _ => hb.block k hk⟩ (by cases v.ownBlock <;> simp)
/-- an entry is appended. -/
theorem app_own {base : Nat} {w : World} {v : Value} {es : List En} (h : OwnE base w v es) (hB : base ≤ w.heap.size) (hl : es.length ≤ 1000000) (x : En) :
    ∃ v' w', (Builtin.append_ #[31, 31] 31 #[v, .slice (some ⟨w.heap.size, 0, none⟩) 1 1]).run Try.prog (w.alloc (.cells #[.int .i64 x.1.t, .int .i64 x.1.s, .int .i64 x.2] 44)) = .ok v' w' ∧
      OwnE base w' v' (es ++ [x]) ∧ (∀ w0, Below base w0 w → Below base w0 w') := by
  obtain ⟨i0, hi0, hz0, hz1, hz2⟩ := info_parts infoEn
  have ho := h.on ((Below.refl w.heap.size w).alloc (Nat.le_refl _) (.cells #[.int .i64 x.1.t, .int .i64 x.1.s, .int .i64 x.2] 44))
  have hb := Blk.new w 44 #[.int .i64 x.1.t, .int .i64 x.1.s, .int .i64 x.2]
  obtain ⟨v', w', h1, h2, h3, _⟩ := run_append_own (P := Try.prog) (w.alloc (.cells #[.int .i64 x.1.t, .int .i64 x.1.s, .int .i64 x.2] 44)) base 31 31 44 i0 _ 3 24 Try.underlying31 hi0 hz0 hz1 hz2 rfl (by omega) v es.length (ecells es) ho
    ⟨w.heap.size, 0, none⟩ 1 1 [.int .i64 x.1.t, .int .i64 x.1.s, .int .i64 x.2] rfl (fun j u hu => by
      rw [Go.WideShapes.add_plain, Nat.zero_add, hb.cell, ← hu]
      rcases j with _ | _ | _ | j <;> rfl) (by simp [Value.oneCell']) (by unfold maxLen; omega) (by omega) (by simp; omega)
  refine ⟨v', w', h1, ?_, fun w0 hb0 => ?_⟩
  · have : ecells (es ++ [x]) = ecells es ++ [.int .i64 x.1.t, .int .i64 x.1.s, .int .i64 x.2] := by rw [ecells_app]; rfl
    unfold OwnE
    rw [this, List.length_append]
    exact h2
  · refine Below.grown (hb0.alloc hB _) h3 (by simp; omega) (fun q hq => (World.ownsRow.lt ho q hq).1)
theorem getE_at {W : World} {g o n : Nat} {es : List En} (h : ∀ i, i < es.length → W.cell? ⟨g, o + i * 3, none⟩ = some (.int .i64 (es.getD i e0).1.t) ∧ W.cell? ⟨g, o + i * 3 + 1, none⟩ = some (.int .i64 (es.getD i e0).1.s) ∧ W.cell? ⟨g, o + i * 3 + 2, none⟩ = some (.int .i64 (es.getD i e0).2)) (hn : n < es.length) {a b c : Int} (he : es.getD n e0 = (⟨a, b⟩, c)) :
    W.cell? ⟨g, o + n * 3, none⟩ = some (.int .i64 a) ∧ W.cell? ⟨g, o + n * 3 + 1, none⟩ = some (.int .i64 b) ∧ W.cell? ⟨g, o + n * 3 + 2, none⟩ = some (.int .i64 c) := by
  have := h n hn
  rw [he] at this
  exact this
/-- the entries of an argument, in every world behind. -/
theorem EnsAt.see {w : World} {A : Option Addr} {n c : Nat} {es : List En} (h : EnsAt w (.slice A n c) es) : n = es.length ∧ n ≤ c ∧ (0 < es.length → ∃ g o, A = some ⟨g, o, none⟩ ∧ ∀ W, Below w.heap.size w W → ∀ i, i < es.length →
    W.cell? ⟨g, o + i * 3, none⟩ = some (.int .i64 (es.getD i e0).1.t) ∧ W.cell? ⟨g, o + i * 3 + 1, none⟩ = some (.int .i64 (es.getD i e0).1.s) ∧ W.cell? ⟨g, o + i * 3 + 2, none⟩ = some (.int .i64 (es.getD i e0).2)) := by
  obtain ⟨A', c', heq, h2, h0, h3⟩ := h
  cases heq
  refine ⟨rfl, h2, fun hp => ?_⟩
  obtain ⟨g, o, h4, h5, h6⟩ := h3 hp
  refine ⟨g, o, h4, fun W hb i hi => ?_⟩
  have e := fun j => hb.cell (p := ⟨g, j, none⟩) h5
  rw [e, e, e]
  exact h6 i hi
theorem take_snoc_en (L : List En) (i : Nat) (hi : i < L.length) : L.take (i + 1) = L.take i ++ [L.getD i e0] := by
  rw [List.take_succ_eq_append_getElem hi, List.getD_eq_getElem?_getD, List.getElem?_eq_getElem hi]; rfl
theorem eq_dec (a b c d : Int) {q : Bool} (h : decide ((⟨a, b⟩ : Ky) = ⟨c, d⟩) = q) (w : World) : (binOp .eql 24 (.agg #[.int .i64 a, .int .i64 b]) (.agg #[.int .i64 c, .int .i64 d])).run Try.prog w = .ok (.bool q) w := by
  rw [eq_key, ← h]
  congr 2
  rw [← Bool.decide_and, decide_eq_decide]
  exact ⟨fun h => by obtain ⟨rfl, rfl⟩ := h; rfl, fun h => by cases h; exact ⟨rfl, rfl⟩⟩
theorem ne_dec (a b c d : Int) {q : Bool} (h : decide ((⟨a, b⟩ : Ky) ≠ ⟨c, d⟩) = q) (w : World) : (binOp .neq 24 (.agg #[.int .i64 a, .int .i64 b]) (.agg #[.int .i64 c, .int .i64 d])).run Try.prog w = .ok (.bool q) w := by
  rw [ne_key, ← h]
  congr 2
  rw [← Bool.decide_and, ← decide_not, decide_eq_decide]
  exact not_congr ⟨fun h => by obtain ⟨rfl, rfl⟩ := h; rfl, fun h => by cases h; exact ⟨rfl, rfl⟩⟩

theorem find_none {k : Ky} {es : List En} (h : ∀ j, j < es.length → (es.getD j e0).1 ≠ k) : hasE k es = false ∧ valE k es = 0 := by
  have h' : ∀ e ∈ es, ¬ e.1 = k := fun e he hk => by
    obtain ⟨j, hj, rfl⟩ := List.mem_iff_getElem.1 he
    exact h j hj (by rw [List.getD_eq_getElem?_getD, List.getElem?_eq_getElem hj]; exact hk)
  refine ⟨by unfold hasE; rw [List.any_eq_false]; exact fun e he => by simp [h' e he], ?_⟩
  unfold valE
  rw [List.find?_eq_none.2 (fun e he => by simp [h' e he])]
  rfl
theorem find_at {k : Ky} {es : List En} {i : Nat} {u : Int} (hi : i < es.length) (h : ∀ j, j < i → (es.getD j e0).1 ≠ k) (hk : es.getD i e0 = (k, u)) : hasE k es = true ∧ valE k es = u := by
  have hs : es = es.take i ++ (k, u) :: es.drop (i + 1) := by
    rw [← hk, List.getD_eq_getElem?_getD, List.getElem?_eq_getElem hi]
    simp
  have h' : ∀ e ∈ es.take i, ¬ e.1 = k := fun e he hk => by
    obtain ⟨j, hj, rfl⟩ := List.mem_iff_getElem.1 he
    rw [List.length_take] at hj
    refine h j (by omega) ?_
    rw [List.getD_eq_getElem?_getD, List.getElem?_eq_getElem (show j < es.length by omega)]
    simpa using hk
  rw [hs]
  refine ⟨hasE_found, ?_⟩
  unfold valE
  rw [List.find?_append, List.find?_eq_none.2 (fun e he => by simp [h' e he]), Option.none_or, List.find?_cons_of_pos (by simp)]
  rfl

set_option maxRecDepth 100000 in
set_option maxHeartbeats 1000000 in
theorem rget_any {w : World} {u : Value} {es : List En} (k : Ky) (hu : EnsAt w u es) (hl : es.length ≤ 1000000) :
    Calls Try.prog 34 #[u, .agg #[.int .i64 k.t, .int .i64 k.s]] w fun e w' => e = .returned (.tuple #[.int .i64 (valE k es), .bool (hasE k es)]) ∧ Below w.heap.size w w' := by
  obtain ⟨A, c, rfl, hc, h0, hA⟩ := hu
  have HA := Lib.hid (EnsAt.see ⟨A, c, rfl, hc, h0, hA⟩).2.2
  clear hA h0
  obtain ⟨kt, kk⟩ := k
  have hb0 : Below w.heap.size w (w.alloc (.cells #[.int .i64 kt, .int .i64 kk] 24)) := (Below.refl _ _).alloc (Nat.le_refl _) _
  have HX := Lib.hid (And.intro hb0 (Blk.new w 24 #[.int .i64 kt, .int .i64 kk]))
  clear hb0
  go_enter Try.func34, Try.ntmps34
  go_wp2_with fail
  go_loopg [6] es.length (fun g i wr => ∃ x : Nat, x ≤ es.length ∧ g = es.length - x ∧ i = .int .i64 x ∧ (∀ j, j < x → (es.getD j e0).1 ≠ ⟨kt, kk⟩) ∧ Below w.heap.size w wr ∧ Blk wr w.heap.size 24 #[.int .i64 kt, .int .i64 kk])
  case atStart => exact ⟨0, Nat.zero_le _, rfl, rfl, fun j hj => absurd hj (by omega), HX.out⟩
  case round =>
    clear HX
    obtain ⟨x, hx, rfl, rfl, hno, hbw, hkb⟩ := hrel
    have HNO := Lib.hid hno
    clear hno
    by_cases hlt : x < es.length
    · have hki : (x : Int) < (es.length : Int) := by omega
      have hk0 : (0 : Int) ≤ (x : Int) := by omega
      obtain ⟨g, o, rfl, hcell⟩ := HA.out (by omega)
      obtain ⟨⟨⟨p1, p2⟩, pv⟩, hp⟩ : ∃ p, p = es.getD x e0 := ⟨_, rfl⟩
      obtain ⟨c0, c1, c2⟩ := getE_at (hcell wr hbw) hlt hp.symm
      obtain ⟨b0, b1, _, _⟩ := hkb.two
      obtain ⟨q, hq⟩ : ∃ q, decide ((⟨p1, p2⟩ : Ky) = ⟨kt, kk⟩) = q := ⟨_, rfl⟩
      have heq := fun W => eq_dec p1 p2 kt kk hq W
      have HB := Lib.hid (And.intro hbw hkb)
      have HQ := Lib.hid (And.intro hq hp)
      clear hbw hkb hq hp hcell
      cases q
      · go_wp2_with fail
        go_quiet (fail)
        go_wp2_with fail
        go_roundg (es.length - (x + 1))
        case measure => omega
        case rel =>
          refine ⟨x + 1, by omega, rfl, by go_num, fun j hj => ?_, below_drewN HB.out.1 _, HB.out.2⟩
          by_cases e : j = x
          · rw [e, ← HQ.out.2]; exact of_decide_eq_false HQ.out.1
          · exact HNO.out j (by omega)
      · go_wp2_with fail
        go_quiet (fail)
        go_wp2_with fail
        go_ret2
        have := find_at hlt HNO.out (show es.getD x e0 = (⟨kt, kk⟩, pv) from by rw [← HQ.out.2, of_decide_eq_true HQ.out.1])
        exact ⟨by rw [this.1, this.2]; rfl, below_drewN HB.out.1 _⟩
    · obtain rfl : x = es.length := by omega
      have hki : ¬ (es.length : Int) < (es.length : Int) := by omega
      have HB := Lib.hid hbw
      clear hbw hkb
      go_wp2_with fail
      go_ret2
      have := find_none HNO.out
      exact ⟨by rw [this.1, this.2]; rfl, HB.out⟩
theorem OwnE.ens {base : Nat} {W : World} {v : Value} {es : List En} (h : OwnE base W v es) : EnsAt W v es := EnsAt.of_own h rfl
theorem filter_take {es : List En} {f : En → Bool} {x : Nat} (h : x < es.length) : (es.take (x + 1)).filter f = (es.take x).filter f ++ (if f (es.getD x e0) then [es.getD x e0] else []) := by
  rw [take_snoc_en es x h, List.filter_append]
  cases hf : f (es.getD x e0) with
  | true => rw [List.filter_cons_of_pos hf]; rfl
  | false => rw [List.filter_cons_of_neg (by rw [hf]; simp)]; rfl

set_option maxRecDepth 100000 in
set_option maxHeartbeats 1000000 in
theorem rrange_any {w : World} {u : Value} {es : List En} (a b : Ky) (hu : EnsAt w u es) (hl : es.length ≤ 1000000) :
    Calls Try.prog 13 #[u, .agg #[.int .i64 a.t, .int .i64 a.s], .agg #[.int .i64 b.t, .int .i64 b.s]] w fun e w' => ∃ v, e = .returned v ∧ EnsAt w' v (es.filter (fun e => !bel e.1 a && bel e.1 b)) ∧ Below w.heap.size w w' := by
  obtain ⟨A, c, rfl, hc, h0, hA⟩ := hu
  have HA := Lib.hid (EnsAt.see ⟨A, c, rfl, hc, h0, hA⟩).2.2
  clear hA h0
  obtain ⟨at_, as_⟩ := a
  obtain ⟨bt, bs⟩ := b
  obtain ⟨f, hf⟩ : ∃ f : En → Bool, f = fun e => !bel e.1 ⟨at_, as_⟩ && bel e.1 ⟨bt, bs⟩ := ⟨_, rfl⟩
  rw [← hf]
  have HF := Lib.hid hf
  clear hf
  have hb0 : Below w.heap.size w ((w.alloc (.cells #[.int .i64 at_, .int .i64 as_] 24)).alloc (.cells #[.int .i64 bt, .int .i64 bs] 24)) := by (repeat (first | (with_reducible assumption) | (with_reducible exact Below.refl _ _) | ((with_reducible refine Below.setCell ?_ ?_ _); rotate_left; · (first | omega | (simp; done) | (simp; omega) | (simp at *; omega))) | ((with_reducible refine Below.alloc ?_ ?_ _); rotate_left; · (first | omega | (simp; done) | (simp; omega) | (simp at *; omega))) | (with_reducible refine Below.drew ?_) | (with_reducible refine below_drewN ?_ _) | ((refine Below.trans ?_ (Below.mono (by with_reducible assumption) ?_)); rotate_left; · (first | omega | (simp; done) | (simp; omega) | (simp at *; omega)))))
  have hk1 := (Blk.new w 24 #[.int .i64 at_, .int .i64 as_]).alloc (.cells #[.int .i64 bt, .int .i64 bs] 24)
  have hk2 := Blk.new (w.alloc (.cells #[.int .i64 at_, .int .i64 as_] 24)) 24 #[.int .i64 bt, .int .i64 bs]
  simp only [World.size_alloc] at hk2
  have hsz : ((w.alloc (.cells #[.int .i64 at_, .int .i64 as_] 24)).alloc (.cells #[.int .i64 bt, .int .i64 bs] 24)).heap.size = w.heap.size + 2 := by simp
  go_enter Try.func13, Try.ntmps13
  go_upto_region 1 with fail
  obtain ⟨w0, hw0⟩ : ∃ w0 : World, w0 = ((w.alloc (.cells #[.int .i64 at_, .int .i64 as_] 24)).alloc (.cells #[.int .i64 bt, .int .i64 bs] 24)) := ⟨_, rfl⟩
  rw [← hw0] at hb0 hk1 hk2 hsz ⊢
  have HX := Lib.hid (And.intro hb0 (And.intro hk1 (And.intro hk2 hsz)))
  clear hw0 hb0 hk1 hk2 hsz
  go_wp2_with fail
  go_loopg [7, 8] es.length (fun g v i wr => ∃ x : Nat, x ≤ es.length ∧ g = es.length - x ∧ i = .int .i64 x ∧ OwnE w0.heap.size wr v ((es.take x).filter f) ∧ Below w0.heap.size w0 wr)
  case atStart => exact ⟨0, Nat.zero_le _, rfl, rfl, OwnE.nil _ _, Below.refl _ _⟩
  case round =>
    obtain ⟨x, hx, rfl, rfl, hO, hbw⟩ := hrel
    by_cases hlt : x < es.length
    · have hki : (x : Int) < (es.length : Int) := by omega
      have hk0 : (0 : Int) ≤ (x : Int) := by omega
      obtain ⟨g, o, rfl, hcell⟩ := HA.out (by omega)
      obtain ⟨⟨⟨p1, p2⟩, pv⟩, hp⟩ : ∃ p, p = es.getD x e0 := ⟨_, rfl⟩
      have HSW := Lib.hid (show ∀ W, Below wr.heap.size wr W → (W.cell? ⟨g, o + x * 3, none⟩ = some (.int .i64 p1) ∧ W.cell? ⟨g, o + x * 3 + 1, none⟩ = some (.int .i64 p2) ∧ W.cell? ⟨w.heap.size, 0, none⟩ = some (.int .i64 at_) ∧ W.cell? ⟨w.heap.size, 1, none⟩ = some (.int .i64 as_) ∧ W.cell? ⟨w.heap.size + 1, 0, none⟩ = some (.int .i64 bt) ∧ W.cell? ⟨w.heap.size + 1, 1, none⟩ = some (.int .i64 bs) ∧ W.cell? ⟨g, o + x * 3 + 2, none⟩ = some (.int .i64 pv)) from fun W hb => by
        have h1 := hbw.trans (hb.mono hbw.size)
        obtain ⟨z0, z1, z2, z3⟩ := HX.out
        obtain ⟨c0, c1, c2⟩ := getE_at (hcell W (z0.trans (h1.mono (by omega)))) hlt hp.symm
        have y1 := z1.below h1 z1.lt
        have y2 := z2.below h1 z2.lt
        exact ⟨c0, c1, y1.cell 0, y1.cell 1, y2.cell 0, y2.cell 1, c2⟩)
      have HO := Lib.hid hO
      have HBW := Lib.hid hbw
      have HP := Lib.hid hp
      obtain ⟨r1, hr1⟩ : ∃ r, r = bel ⟨p1, p2⟩ ⟨at_, as_⟩ := ⟨_, rfl⟩
      obtain ⟨r2, hr2⟩ : ∃ r, r = bel ⟨p1, p2⟩ ⟨bt, bs⟩ := ⟨_, rfl⟩
      have HR1 := Lib.hid (show ∀ W, Calls Try.prog 20 #[.agg #[.int .i64 p1, .int .i64 p2], .agg #[.int .i64 at_, .int .i64 as_]] W fun e w' => e = .returned (.bool r1) ∧ Below W.heap.size W w' from fun W => (rbelow_any ⟨p1, p2⟩ ⟨at_, as_⟩ W).mono fun e w' h => ⟨by rw [h.1, hr1], h.2⟩)
      have HR2 := Lib.hid (show ∀ W, Calls Try.prog 20 #[.agg #[.int .i64 p1, .int .i64 p2], .agg #[.int .i64 bt, .int .i64 bs]] W fun e w' => e = .returned (.bool r2) ∧ Below W.heap.size W w' from fun W => (rbelow_any ⟨p1, p2⟩ ⟨bt, bs⟩ W).mono fun e w' h => ⟨by rw [h.1, hr2], h.2⟩)
      have HFX := Lib.hid (show f (es.getD x e0) = (!r1 && r2) by rw [HF.out, ← hp, hr1, hr2])
      clear hO hbw hp hcell hr1 hr2
      go_upto_region 5 with fail
      go_cut [31] (fun s wz => s = .bool (!r1 && r2) ∧ Below wr.heap.size wr wz)
      case first =>
        cases r1
        · refine (wpIn_wide (n := 0)).1 ?_
          refine anyS_region (S := (fun W => W.cell? ⟨g, o + x * 3, none⟩ = some (.int .i64 p1) ∧ W.cell? ⟨g, o + x * 3 + 1, none⟩ = some (.int .i64 p2) ∧ W.cell? ⟨w.heap.size, 0, none⟩ = some (.int .i64 at_) ∧ W.cell? ⟨w.heap.size, 1, none⟩ = some (.int .i64 as_) ∧ W.cell? ⟨w.heap.size + 1, 0, none⟩ = some (.int .i64 bt) ∧ W.cell? ⟨w.heap.size + 1, 1, none⟩ = some (.int .i64 bs) ∧ W.cell? ⟨g, o + x * 3 + 2, none⟩ = some (.int .i64 pv))) 17 (by kernel_rfl) ?_ (fun hHeld => ?_)
          · exact HSW.out _ (below_drewN (Below.refl _ _) 1)
          refine anyS_take (i := 0) (v := ?_) (by (simp only [List.getElem?_toArray, List.getElem?_cons_zero]); exact rfl) (by kernel_rfl) (by kernel_rfl) (by kernel_rfl) (by kernel_rfl) (by decide) (by intro _ _ _ h; exact h) (Or.inl ⟨by rfl, ?_⟩) (by assumption) ?_
          rotate_left
          · (intro w hSw; (try dsimp only at hSw); go_simp; (try with_reducible rfl))
          try simp only [Act.put, List.setIfInBounds_toArray, List.set_cons_zero, List.set_cons_succ]
          refine anyS_take (i := 1) (v := ?_) (by (simp only [List.getElem?_toArray, List.getElem?_cons_zero, List.getElem?_cons_succ]); exact rfl) (by kernel_rfl) (by kernel_rfl) (by kernel_rfl) (by kernel_rfl) (by decide) (by intro _ _ _ h; exact h) (Or.inl ⟨by rfl, ?_⟩) (by assumption) ?_
          rotate_left
          · (intro w hSw; (try dsimp only at hSw); go_simp; (try with_reducible rfl))
          try simp only [Act.put, List.setIfInBounds_toArray, List.set_cons_zero, List.set_cons_succ]
          refine anyS_take (i := 2) (v := ?_) (by (simp only [List.getElem?_toArray, List.getElem?_cons_zero, List.getElem?_cons_succ]); exact rfl) (by kernel_rfl) (by kernel_rfl) (by kernel_rfl) (by kernel_rfl) (by decide) (by intro _ _ _ h; exact h) (Or.inl ⟨by rfl, ?_⟩) (by assumption) ?_
          rotate_left
          · (intro w hSw; (try dsimp only at hSw); go_simp; (try with_reducible rfl))
          try simp only [Act.put, List.setIfInBounds_toArray, List.set_cons_zero, List.set_cons_succ]
          refine anyS_take (i := 3) (v := ?_) (by (simp only [List.getElem?_toArray, List.getElem?_cons_zero, List.getElem?_cons_succ]); exact rfl) (by kernel_rfl) (by kernel_rfl) (by kernel_rfl) (by kernel_rfl) (by decide) (by intro _ _ _ h; exact h) (Or.inl ⟨by rfl, ?_⟩) (by assumption) ?_
          rotate_left
          · (intro w hSw; (try dsimp only at hSw); go_simp; (try with_reducible rfl))
          try simp only [Act.put, List.setIfInBounds_toArray, List.set_cons_zero, List.set_cons_succ]
          refine anyS_take (i := 4) (v := ?_) (by (simp only [List.getElem?_toArray, List.getElem?_cons_zero, List.getElem?_cons_succ]); exact rfl) (by kernel_rfl) (by kernel_rfl) (by kernel_rfl) (by kernel_rfl) (by decide) (by intro _ _ _ h; exact h) (Or.inl ⟨by rfl, ?_⟩) (by assumption) ?_
          rotate_left
          · (intro w hSw; (try dsimp only at hSw); go_simp; (try with_reducible rfl))
          try simp only [Act.put, List.setIfInBounds_toArray, List.set_cons_zero, List.set_cons_succ]
          refine anyS_take (i := 5) (v := ?_) (by (simp only [List.getElem?_toArray, List.getElem?_cons_zero, List.getElem?_cons_succ]); exact rfl) (by kernel_rfl) (by kernel_rfl) (by kernel_rfl) (by kernel_rfl) (by decide) (by intro _ _ _ h; exact h) (Or.inl ⟨by rfl, ?_⟩) (by assumption) ?_
          rotate_left
          · (intro w hSw; (try dsimp only at hSw); go_simp; (try with_reducible rfl))
          try simp only [Act.put, List.setIfInBounds_toArray, List.set_cons_zero, List.set_cons_succ]
          refine anyS_only (i := 6) (by kernel_rfl) (by decide) (by (simp only [List.getElem?_toArray, List.getElem?_cons_zero, List.getElem?_cons_succ]); exact rfl) (by rfl) (fun K hK => ?_)
          go_simp
          refine ⟨trivial, rfl, ?_⟩
          gi_at_call 20
          refine (callsIn_wide.2 (HR1.out _)).mono ?_
          rintro e wk ⟨rfl, hbk⟩
          have hBL : Below wr.heap.size wr wk := Below.trans (below_drewN (Below.refl _ _) 1) hbk
          refine hK.out _ _ ?_ (fun hHeld => ?_)
          · exact HSW.out _ hBL
          clear hK K
          try simp only [Act.put, List.setIfInBounds_toArray, List.set_cons_zero, List.set_cons_succ]
          refine anyS_take (i := 7) (v := ?_) (by (simp only [List.getElem?_toArray, List.getElem?_cons_zero, List.getElem?_cons_succ]); exact rfl) (by kernel_rfl) (by kernel_rfl) (by kernel_rfl) (by kernel_rfl) (by decide) (by intro _ _ _ h; exact h) (Or.inl ⟨by rfl, ?_⟩) (by assumption) ?_
          rotate_left
          · (intro w hSw; (try dsimp only at hSw); go_simp; (try with_reducible rfl))
          try simp only [Act.put, List.setIfInBounds_toArray, List.set_cons_zero, List.set_cons_succ]
          refine anyS_take (i := 8) (v := ?_) (by (simp only [List.getElem?_toArray, List.getElem?_cons_zero, List.getElem?_cons_succ]); exact rfl) (by kernel_rfl) (by kernel_rfl) (by kernel_rfl) (by kernel_rfl) (by decide) (by intro _ _ _ h; exact h) (Or.inl ⟨by rfl, ?_⟩) (by assumption) ?_
          rotate_left
          · (intro w hSw; (try dsimp only at hSw); go_simp; (try with_reducible rfl))
          try simp only [Act.put, List.setIfInBounds_toArray, List.set_cons_zero, List.set_cons_succ]
          refine anyS_take (i := 9) (v := ?_) (by (simp only [List.getElem?_toArray, List.getElem?_cons_zero, List.getElem?_cons_succ]); exact rfl) (by kernel_rfl) (by kernel_rfl) (by kernel_rfl) (by kernel_rfl) (by decide) (by intro _ _ _ h; exact h) (Or.inl ⟨by rfl, ?_⟩) (by assumption) ?_
          rotate_left
          · (intro w hSw; (try dsimp only at hSw); go_simp; (try with_reducible rfl))
          try simp only [Act.put, List.setIfInBounds_toArray, List.set_cons_zero, List.set_cons_succ]
          refine anyS_take (i := 10) (v := ?_) (by (simp only [List.getElem?_toArray, List.getElem?_cons_zero, List.getElem?_cons_succ]); exact rfl) (by kernel_rfl) (by kernel_rfl) (by kernel_rfl) (by kernel_rfl) (by decide) (by intro _ _ _ h; exact h) (Or.inl ⟨by rfl, ?_⟩) (by assumption) ?_
          rotate_left
          · (intro w hSw; (try dsimp only at hSw); go_simp; (try with_reducible rfl))
          try simp only [Act.put, List.setIfInBounds_toArray, List.set_cons_zero, List.set_cons_succ]
          refine anyS_take (i := 11) (v := ?_) (by (simp only [List.getElem?_toArray, List.getElem?_cons_zero, List.getElem?_cons_succ]); exact rfl) (by kernel_rfl) (by kernel_rfl) (by kernel_rfl) (by kernel_rfl) (by decide) (by intro _ _ _ h; exact h) (Or.inl ⟨by rfl, ?_⟩) (by assumption) ?_
          rotate_left
          · (intro w hSw; (try dsimp only at hSw); go_simp; (try with_reducible rfl))
          try simp only [Act.put, List.setIfInBounds_toArray, List.set_cons_zero, List.set_cons_succ]
          refine anyS_take (i := 12) (v := ?_) (by (simp only [List.getElem?_toArray, List.getElem?_cons_zero, List.getElem?_cons_succ]); exact rfl) (by kernel_rfl) (by kernel_rfl) (by kernel_rfl) (by kernel_rfl) (by decide) (by intro _ _ _ h; exact h) (Or.inl ⟨by rfl, ?_⟩) (by assumption) ?_
          rotate_left
          · (intro w hSw; (try dsimp only at hSw); go_simp; (try with_reducible rfl))
          try simp only [Act.put, List.setIfInBounds_toArray, List.set_cons_zero, List.set_cons_succ]
          refine anyS_take (i := 13) (v := ?_) (by (simp only [List.getElem?_toArray, List.getElem?_cons_zero, List.getElem?_cons_succ]); exact rfl) (by kernel_rfl) (by kernel_rfl) (by kernel_rfl) (by kernel_rfl) (by decide) (by intro _ _ _ h; exact h) (Or.inl ⟨by rfl, ?_⟩) (by assumption) ?_
          rotate_left
          · (intro w hSw; (try dsimp only at hSw); go_simp; (try with_reducible rfl))
          try simp only [Act.put, List.setIfInBounds_toArray, List.set_cons_zero, List.set_cons_succ]
          refine anyS_take (i := 14) (v := ?_) (by (simp only [List.getElem?_toArray, List.getElem?_cons_zero, List.getElem?_cons_succ]); exact rfl) (by kernel_rfl) (by kernel_rfl) (by kernel_rfl) (by kernel_rfl) (by decide) (by intro _ _ _ h; exact h) (Or.inl ⟨by rfl, ?_⟩) (by assumption) ?_
          rotate_left
          · (intro w hSw; (try dsimp only at hSw); go_simp; (try with_reducible rfl))
          try simp only [Act.put, List.setIfInBounds_toArray, List.set_cons_zero, List.set_cons_succ]
          refine anyS_only (i := 15) (by kernel_rfl) (by decide) (by (simp only [List.getElem?_toArray, List.getElem?_cons_zero, List.getElem?_cons_succ]); exact rfl) (by rfl) (fun K hK => ?_)
          go_simp
          refine ⟨trivial, rfl, ?_⟩
          gi_at_call 20
          refine (callsIn_wide.2 (HR2.out _)).mono ?_
          rintro e wl ⟨rfl, hbl⟩
          have hBM : Below wr.heap.size wr wl := Below.trans hBL (hbl.mono hBL.size)
          refine hK.out _ _ ?_ (fun hHeld => ?_)
          · exact HSW.out _ hBM
          clear hK K
          try simp only [Act.put, List.setIfInBounds_toArray, List.set_cons_zero, List.set_cons_succ]
          refine anyS_take (i := 16) (v := ?_) (by (simp only [List.getElem?_toArray, List.getElem?_cons_zero, List.getElem?_cons_succ]); exact rfl) (by kernel_rfl) (by kernel_rfl) (by kernel_rfl) (by kernel_rfl) (by decide) (by intro _ _ _ h; exact h) (Or.inl ⟨by rfl, ?_⟩) (by assumption) ?_
          rotate_left
          · (intro w hSw; (try dsimp only at hSw); go_simp; (try with_reducible rfl))
          try simp only [Act.put, List.setIfInBounds_toArray, List.set_cons_zero, List.set_cons_succ]
          refine anyS_done (by kernel_rfl) ?_ _
          go_wp2_with fail
          go_meet
          exact ⟨rfl, hBM⟩
        · refine (wpIn_wide (n := 0)).1 ?_
          refine anyS_region (S := (fun W => W.cell? ⟨g, o + x * 3, none⟩ = some (.int .i64 p1) ∧ W.cell? ⟨g, o + x * 3 + 1, none⟩ = some (.int .i64 p2) ∧ W.cell? ⟨w.heap.size, 0, none⟩ = some (.int .i64 at_) ∧ W.cell? ⟨w.heap.size, 1, none⟩ = some (.int .i64 as_) ∧ W.cell? ⟨w.heap.size + 1, 0, none⟩ = some (.int .i64 bt) ∧ W.cell? ⟨w.heap.size + 1, 1, none⟩ = some (.int .i64 bs) ∧ W.cell? ⟨g, o + x * 3 + 2, none⟩ = some (.int .i64 pv))) 17 (by kernel_rfl) ?_ (fun hHeld => ?_)
          · exact HSW.out _ (below_drewN (Below.refl _ _) 1)
          refine anyS_take (i := 0) (v := ?_) (by (simp only [List.getElem?_toArray, List.getElem?_cons_zero]); exact rfl) (by kernel_rfl) (by kernel_rfl) (by kernel_rfl) (by kernel_rfl) (by decide) (by intro _ _ _ h; exact h) (Or.inl ⟨by rfl, ?_⟩) (by assumption) ?_
          rotate_left
          · (intro w hSw; (try dsimp only at hSw); go_simp; (try with_reducible rfl))
          try simp only [Act.put, List.setIfInBounds_toArray, List.set_cons_zero, List.set_cons_succ]
          refine anyS_take (i := 1) (v := ?_) (by (simp only [List.getElem?_toArray, List.getElem?_cons_zero, List.getElem?_cons_succ]); exact rfl) (by kernel_rfl) (by kernel_rfl) (by kernel_rfl) (by kernel_rfl) (by decide) (by intro _ _ _ h; exact h) (Or.inl ⟨by rfl, ?_⟩) (by assumption) ?_
          rotate_left
          · (intro w hSw; (try dsimp only at hSw); go_simp; (try with_reducible rfl))
          try simp only [Act.put, List.setIfInBounds_toArray, List.set_cons_zero, List.set_cons_succ]
          refine anyS_take (i := 2) (v := ?_) (by (simp only [List.getElem?_toArray, List.getElem?_cons_zero, List.getElem?_cons_succ]); exact rfl) (by kernel_rfl) (by kernel_rfl) (by kernel_rfl) (by kernel_rfl) (by decide) (by intro _ _ _ h; exact h) (Or.inl ⟨by rfl, ?_⟩) (by assumption) ?_
          rotate_left
          · (intro w hSw; (try dsimp only at hSw); go_simp; (try with_reducible rfl))
          try simp only [Act.put, List.setIfInBounds_toArray, List.set_cons_zero, List.set_cons_succ]
          refine anyS_take (i := 3) (v := ?_) (by (simp only [List.getElem?_toArray, List.getElem?_cons_zero, List.getElem?_cons_succ]); exact rfl) (by kernel_rfl) (by kernel_rfl) (by kernel_rfl) (by kernel_rfl) (by decide) (by intro _ _ _ h; exact h) (Or.inl ⟨by rfl, ?_⟩) (by assumption) ?_
          rotate_left
          · (intro w hSw; (try dsimp only at hSw); go_simp; (try with_reducible rfl))
          try simp only [Act.put, List.setIfInBounds_toArray, List.set_cons_zero, List.set_cons_succ]
          refine anyS_take (i := 4) (v := ?_) (by (simp only [List.getElem?_toArray, List.getElem?_cons_zero, List.getElem?_cons_succ]); exact rfl) (by kernel_rfl) (by kernel_rfl) (by kernel_rfl) (by kernel_rfl) (by decide) (by intro _ _ _ h; exact h) (Or.inl ⟨by rfl, ?_⟩) (by assumption) ?_
          rotate_left
          · (intro w hSw; (try dsimp only at hSw); go_simp; (try with_reducible rfl))
          try simp only [Act.put, List.setIfInBounds_toArray, List.set_cons_zero, List.set_cons_succ]
          refine anyS_take (i := 5) (v := ?_) (by (simp only [List.getElem?_toArray, List.getElem?_cons_zero, List.getElem?_cons_succ]); exact rfl) (by kernel_rfl) (by kernel_rfl) (by kernel_rfl) (by kernel_rfl) (by decide) (by intro _ _ _ h; exact h) (Or.inl ⟨by rfl, ?_⟩) (by assumption) ?_
          rotate_left
          · (intro w hSw; (try dsimp only at hSw); go_simp; (try with_reducible rfl))
          try simp only [Act.put, List.setIfInBounds_toArray, List.set_cons_zero, List.set_cons_succ]
          refine anyS_only (i := 6) (by kernel_rfl) (by decide) (by (simp only [List.getElem?_toArray, List.getElem?_cons_zero, List.getElem?_cons_succ]); exact rfl) (by rfl) (fun K hK => ?_)
          go_simp
          refine ⟨trivial, rfl, ?_⟩
          gi_at_call 20
          refine (callsIn_wide.2 (HR1.out _)).mono ?_
          rintro e wk ⟨rfl, hbk⟩
          have hBL : Below wr.heap.size wr wk := Below.trans (below_drewN (Below.refl _ _) 1) hbk
          refine hK.out _ _ ?_ (fun hHeld => ?_)
          · exact HSW.out _ hBL
          clear hK K
          try simp only [Act.put, List.setIfInBounds_toArray, List.set_cons_zero, List.set_cons_succ]
          refine anyS_take (i := 7) (v := ?_) (by (simp only [List.getElem?_toArray, List.getElem?_cons_zero, List.getElem?_cons_succ]); exact rfl) (by kernel_rfl) (by kernel_rfl) (by kernel_rfl) (by kernel_rfl) (by decide) (by intro _ _ _ h; exact h) (Or.inl ⟨by rfl, ?_⟩) (by assumption) ?_
          rotate_left
          · (intro w hSw; (try dsimp only at hSw); go_simp; (try with_reducible rfl))
          try simp only [Act.put, List.setIfInBounds_toArray, List.set_cons_zero, List.set_cons_succ]
          refine anyS_take (i := 8) (v := ?_) (by (simp only [List.getElem?_toArray, List.getElem?_cons_zero, List.getElem?_cons_succ]); exact rfl) (by kernel_rfl) (by kernel_rfl) (by kernel_rfl) (by kernel_rfl) (by decide) (by intro _ _ _ h; exact h) (Or.inl ⟨by rfl, ?_⟩) (by assumption) ?_
          rotate_left
          · (intro w hSw; (try dsimp only at hSw); go_simp; (try with_reducible rfl))
          try simp only [Act.put, List.setIfInBounds_toArray, List.set_cons_zero, List.set_cons_succ]
          refine anyS_take (i := 9) (v := undef) (by (simp only [List.getElem?_toArray, List.getElem?_cons_zero, List.getElem?_cons_succ]); exact rfl) (by kernel_rfl) (by kernel_rfl) (by kernel_rfl) (by kernel_rfl) (by decide) (by intro _ _ _ h; exact h) (Or.inr ⟨by rfl, rfl⟩) (by assumption) ?_
          try simp only [Act.put, List.setIfInBounds_toArray, List.set_cons_zero, List.set_cons_succ]
          refine anyS_take (i := 10) (v := undef) (by (simp only [List.getElem?_toArray, List.getElem?_cons_zero, List.getElem?_cons_succ]); exact rfl) (by kernel_rfl) (by kernel_rfl) (by kernel_rfl) (by kernel_rfl) (by decide) (by intro _ _ _ h; exact h) (Or.inr ⟨by rfl, rfl⟩) (by assumption) ?_
          try simp only [Act.put, List.setIfInBounds_toArray, List.set_cons_zero, List.set_cons_succ]
          refine anyS_take (i := 11) (v := undef) (by (simp only [List.getElem?_toArray, List.getElem?_cons_zero, List.getElem?_cons_succ]); exact rfl) (by kernel_rfl) (by kernel_rfl) (by kernel_rfl) (by kernel_rfl) (by decide) (by intro _ _ _ h; exact h) (Or.inr ⟨by rfl, rfl⟩) (by assumption) ?_
          try simp only [Act.put, List.setIfInBounds_toArray, List.set_cons_zero, List.set_cons_succ]
          refine anyS_take (i := 12) (v := undef) (by (simp only [List.getElem?_toArray, List.getElem?_cons_zero, List.getElem?_cons_succ]); exact rfl) (by kernel_rfl) (by kernel_rfl) (by kernel_rfl) (by kernel_rfl) (by decide) (by intro _ _ _ h; exact h) (Or.inr ⟨by rfl, rfl⟩) (by assumption) ?_
          try simp only [Act.put, List.setIfInBounds_toArray, List.set_cons_zero, List.set_cons_succ]
          refine anyS_take (i := 13) (v := undef) (by (simp only [List.getElem?_toArray, List.getElem?_cons_zero, List.getElem?_cons_succ]); exact rfl) (by kernel_rfl) (by kernel_rfl) (by kernel_rfl) (by kernel_rfl) (by decide) (by intro _ _ _ h; exact h) (Or.inr ⟨by rfl, rfl⟩) (by assumption) ?_
          try simp only [Act.put, List.setIfInBounds_toArray, List.set_cons_zero, List.set_cons_succ]
          refine anyS_take (i := 14) (v := undef) (by (simp only [List.getElem?_toArray, List.getElem?_cons_zero, List.getElem?_cons_succ]); exact rfl) (by kernel_rfl) (by kernel_rfl) (by kernel_rfl) (by kernel_rfl) (by decide) (by intro _ _ _ h; exact h) (Or.inr ⟨by rfl, rfl⟩) (by assumption) ?_
          try simp only [Act.put, List.setIfInBounds_toArray, List.set_cons_zero, List.set_cons_succ]
          refine anyS_take (i := 15) (v := undef) (by (simp only [List.getElem?_toArray, List.getElem?_cons_zero, List.getElem?_cons_succ]); exact rfl) (by kernel_rfl) (by kernel_rfl) (by kernel_rfl) (by kernel_rfl) (by decide) (by intro _ _ _ h; exact h) (Or.inr ⟨by rfl, rfl⟩) (by assumption) ?_
          try simp only [Act.put, List.setIfInBounds_toArray, List.set_cons_zero, List.set_cons_succ]
          refine anyS_take (i := 16) (v := ?_) (by (simp only [List.getElem?_toArray, List.getElem?_cons_zero, List.getElem?_cons_succ]); exact rfl) (by kernel_rfl) (by kernel_rfl) (by kernel_rfl) (by kernel_rfl) (by decide) (by intro _ _ _ h; exact h) (Or.inl ⟨by rfl, ?_⟩) (by assumption) ?_
          rotate_left
          · (intro w hSw; (try dsimp only at hSw); go_simp; (try with_reducible rfl))
          try simp only [Act.put, List.setIfInBounds_toArray, List.set_cons_zero, List.set_cons_succ]
          refine anyS_done (by kernel_rfl) ?_ _
          go_wp2_with fail
          go_meet
          exact ⟨rfl, hBL⟩
      obtain ⟨rfl, hbx⟩ := hcut
      obtain ⟨wy, rfl⟩ : ∃ wq : World, wq = wc := ⟨_, rfl⟩
      obtain ⟨q, hq⟩ : ∃ q, q = (!r1 && r2) := ⟨_, rfl⟩
      rw [← hq]
      have hbz := HBW.out.trans (hbx.mono HBW.out.size)
      have hO2 := HO.out.on hbx
      have HFT := Lib.hid (filter_take (f := f) hlt)
      cases q
      · have HY := Lib.hid (And.intro hbz (show OwnE w0.heap.size wy _ ((es.take (x + 1)).filter f) from by rw [HFT.out, HFX.out, ← hq]; simpa using hO2))
        clear hbz hO2 hbx hq
        go_wp2_with fail
        go_roundg (es.length - (x + 1))
        case measure => omega
        case rel => exact ⟨x + 1, by omega, rfl, by go_num, HY.out.2, HY.out.1⟩
      · obtain ⟨v', w3, hrun, ho3, hb3⟩ := app_own hO2 hbz.size (Nat.le_trans (List.length_filter_le _ _) (by rw [List.length_take]; omega)) (⟨p1, p2⟩, pv)
        obtain ⟨c0, c1, _, _, _, _, c2⟩ := HSW.out wy hbx
        have HY := Lib.hid (And.intro (hb3 _ hbz) (show OwnE w0.heap.size w3 v' ((es.take (x + 1)).filter f) from by rw [HFT.out, HFX.out, ← hq, ← HP.out]; exact ho3))
        clear hbz hO2 hbx hq ho3 hb3
        go_wp2_with (at_builtin; refine wpList_append_run rfl (.tmp 32) (.tmp 37) 31 rfl rfl rfl hrun ?_)
        go_roundg (es.length - (x + 1))
        case measure => omega
        case rel => exact ⟨x + 1, by omega, rfl, by go_num, HY.out.2, HY.out.1⟩
    · obtain rfl : x = es.length := by omega
      have hki : ¬ (es.length : Int) < (es.length : Int) := by omega
      have HB := Lib.hid hbw
      have HO := Lib.hid hO
      clear hbw hO
      go_wp2_with fail
      go_ret
      have hO := HO.out
      rw [List.take_length] at hO
      obtain ⟨z0, z1, z2, z3⟩ := HX.out
      exact ⟨_, rfl, hO.ens, z0.trans (HB.out.mono (by omega))⟩
end Go.Proofs.Ytmmikolcipcldaa
