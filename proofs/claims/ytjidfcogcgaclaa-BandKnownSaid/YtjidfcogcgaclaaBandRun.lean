/-
  What is proved here: what Run tells of many points (chapter 7). Conditions: none beyond each theorem's own.
-/
import Derived.Test.YtjidfcogcgaclaaPointKit
import Derived.Test.YtjidfcogcgaclaaBandRef
import Derived.Deep.RegionHeld3
namespace Go.Proofs.Ytjidfcogcgaclaa
open Go.RowKit Go.Deep
attribute [local go_sem high] eq_point ne_point eqp_self

/-- what is held behind the first k points, and what was told of them. -/
def heldTo (b : Band) (L : List Point) : Nat → Held
  | 0 => ⟨false, 0, 0⟩
  | k + 1 => next b (heldTo b L k) (L.getD k p0)
def outTo (b : Band) (L : List Point) : Nat → List Point
  | 0 => []
  | k + 1 => if told b (heldTo b L k) (L.getD k p0) = true then outTo b L k ++ [L.getD k p0] else outTo b L k
theorem out_len (b : Band) (L : List Point) : ∀ k, (outTo b L k).length ≤ k
  | 0 => by simp [outTo]
  | k + 1 => by
    have := out_len b L k
    show (if told b (heldTo b L k) (L.getD k p0) = true then outTo b L k ++ [L.getD k p0] else outTo b L k).length ≤ k + 1
    split
    · rw [List.length_append]; simp; omega
    · omega
theorem held_fit (b : Band) (L : List Point) (hL : ∀ i, i < L.length → I64 (L.getD i p0).v ∧ I64 (L.getD i p0).t) : ∀ k, k ≤ L.length → I64 (heldTo b L k).v ∧ I64 (heldTo b L k).t
  | 0, _ => ⟨⟨by simp [heldTo], by simp [heldTo]⟩, ⟨by simp [heldTo], by simp [heldTo]⟩⟩
  | k + 1, hk => by
    have ih := held_fit b L hL k (by omega)
    have hx := hL k (by omega)
    show I64 (next b (heldTo b L k) (L.getD k p0)).v ∧ I64 (next b (heldTo b L k) (L.getD k p0)).t
    unfold next
    split
    · exact hx
    · exact ih
theorem out_yes {b : Band} {L : List Point} {k : Nat} (h : told b (heldTo b L k) (L.getD k p0) = true) : outTo b L (k + 1) = outTo b L k ++ [L.getD k p0] := if_pos h
theorem out_no {b : Band} {L : List Point} {k : Nat} (h : told b (heldTo b L k) (L.getD k p0) = false) : outTo b L (k + 1) = outTo b L k := if_neg (by rw [h]; simp)

theorem two_ints (x : Point) : (∀ u ∈ [Value.int .i64 x.v, .int .i64 x.t], u.oneCell' = true) ∧ ∀ u ∈ [Value.int .i64 x.v, .int .i64 x.t], IsInt u := by
  refine ⟨by simp [Value.oneCell'], fun u hu => ?_⟩
  simp at hu
  rcases hu with h | h
  · exact ⟨_, h⟩
  · exact ⟨_, h⟩
theorem zero_ints : ∀ u ∈ (Value.agg #[.int .i64 0, .int .i64 0]).cells.toList, IsInt u := by
  intro u hu
  simp [Value.cells] at hu
  exact ⟨_, hu⟩

theorem OwnG.far {Good : Value → Prop} {w : World} {base : Nat} {e : TypeId} {size n : Nat} {v : Value} {xs : List Value} (h : OwnG Good w base e size v n xs) {p : Addr} (hp : p.block < base) (u : Value) : OwnG Good (w.setCell p u) base e size v n xs := by
  refine ⟨ownsRow_setCell_below h.1 hp u, fun g c cur hv hg => ?_⟩
  have hb := (own_block_lt h.1 hv).1
  rw [Below.heap_setCell w p u g (by omega)] at hg
  exact h.2 g c cur hv hg
theorem own_mono {Good : Value → Prop} {w : World} {base B : Nat} {e : TypeId} {size n : Nat} {v : Value} {xs : List Value} (h : OwnG Good w base e size v n xs) (hB : B ≤ base) : OwnG Good w B e size v n xs := by
  refine ⟨⟨h.1.1, ?_⟩, h.2⟩
  rcases h.1.2 with h0 | ⟨g, cap, cur, hv, hb, r⟩
  · exact .inl h0
  · exact .inr ⟨g, cap, cur, hv, Nat.le_trans hB hb, r⟩
theorem own_ne {Good : Value → Prop} {w : World} {base : Nat} {e : TypeId} {size n : Nat} {v : Value} {xs : List Value} (h : OwnG Good w base e size v n xs) {g : Nat} (hg : g < base) : some g ≠ v.ownBlock := by
  intro e
  have := (h.1.lt g e.symm).1
  omega

set_option maxRecDepth 100000 in
set_option maxHeartbeats 1000000 in
theorem run_any (A : Option Addr) (ca : Nat) (b : Band) (L : List Point) (w : World) (hA : PointsAt w A L) (hlen : L.length * 16 ≤ 140737488351232)
    (hL : ∀ i, i < L.length → I64 (L.getD i p0).v ∧ I64 (L.getD i p0).t) (hd : I64 b.dead) (hq : I64 b.quiet) :
    Calls Try.prog 14 #[.agg #[.int .i64 b.dead, .int .i64 b.quiet], .slice A L.length ca] w (NewList w (outTo b L L.length)) := by
  obtain ⟨i0, hi0, hz0, hz1, hz2⟩ := info_parts infoP
  have HA := Lib.hid hA
  have HL := Lib.hid hL
  have HDQ := Lib.hid (And.intro hd hq)
  clear hA hL hd hq
  go_enter Try.func14, Try.ntmps14
  go_wp2
  have S0 := Blk.alloc (Blk.new w 23 #[.int .i64 b.dead, .int .i64 b.quiet]) (.cells #[.bool false, .int .i64 0, .int .i64 0] 25)
  have S1 := Blk.new (w.alloc (.cells #[.int .i64 b.dead, .int .i64 b.quiet] 23)) 25 #[.bool false, .int .i64 0, .int .i64 0]
  have S2 : Below w.heap.size w ((w.alloc (.cells #[.int .i64 b.dead, .int .i64 b.quiet] 23)).alloc (.cells #[.bool false, .int .i64 0, .int .i64 0] 25)) := by (repeat (first | (with_reducible assumption) | (with_reducible exact Below.refl _ _) | ((with_reducible refine Below.setCell ?_ ?_ _); rotate_left; · (first | omega | (simp; done) | (simp; omega) | (simp at *; omega))) | ((with_reducible refine Below.alloc ?_ ?_ _); rotate_left; · (first | omega | (simp; done) | (simp; omega) | (simp at *; omega))) | (with_reducible refine Below.drew ?_) | (with_reducible refine below_drewN ?_ _) | ((refine Below.trans ?_ (Below.mono (by with_reducible assumption) ?_)); rotate_left; · (first | omega | (simp; done) | (simp; omega) | (simp at *; omega)))))
  simp only [World.size_alloc] at S1
  have HS0 := Lib.hid S0
  have HS1 := Lib.hid S1
  have HS2 := Lib.hid S2
  clear S0 S1 S2
  go_loopg [5, 13] L.length (fun g ov i wr => ∃ k : Nat, k ≤ L.length ∧ g = L.length - k ∧ i = .int .i64 k ∧ OwnG IsInt wr (w.heap.size + 2) 27 2 ov (outTo b L k).length ((outTo b L k).flatMap pcells) ∧
    Blk wr w.heap.size 23 #[.int .i64 b.dead, .int .i64 b.quiet] ∧ Blk wr (w.heap.size + 1) 25 #[.bool (heldTo b L k).has, .int .i64 (heldTo b L k).v, .int .i64 (heldTo b L k).t] ∧ Below w.heap.size w wr)
  case atStart => exact ⟨0, Nat.zero_le _, rfl, rfl, OwnG.nil_ _ _ _ 2, HS0.out, HS1.out, HS2.out⟩
  case round =>
    clear HS0 HS1 HS2
    obtain ⟨k, hk, rfl, rfl, hown, hband, hheld, hbw⟩ := hrel
    by_cases hlt : k < L.length
    · obtain ⟨bb, off, rfl, hb, hS⟩ := HA.out (by omega)
      obtain ⟨c0, c1⟩ := hS k hlt
      have h0 := (hbw.cell (p := ⟨bb, off + k * 2, none⟩) hb).trans c0
      have h1 := (hbw.cell (p := ⟨bb, off + k * 2 + 1, none⟩) hb).trans c1
      have hfit := held_fit b L HL.out k (by omega)
      have hpf := HL.out k hlt
      have hol := out_len b L k
      have hgx := pcells_int (outTo b L k)
      have hyes := @out_yes b L k
      have hno := @out_no b L k
      have hnx : heldTo b L (k + 1) = next b (heldTo b L k) (L.getD k p0) := rfl
      obtain ⟨x, hx⟩ : ∃ x, x = L.getD k p0 := ⟨_, rfl⟩
      rw [← hx] at h0 h1 hpf hyes hno hnx
      obtain ⟨h, hh⟩ : ∃ h, h = heldTo b L k := ⟨_, rfl⟩
      rw [← hh] at hheld hfit hyes hno hnx
      obtain ⟨O, hO⟩ : ∃ O, O = outTo b L k := ⟨_, rfl⟩
      rw [← hO] at hown hgx hyes hno hol
      have HST := Lib.hid (fun W => step_any b h x W hpf.1 hfit.1 hpf.2 hfit.2 HDQ.out.1 HDQ.out.2)
      have HY := Lib.hid hyes
      have HN := Lib.hid hno
      have HNX := Lib.hid hnx
      clear c0 c1 hS hfit hpf hyes hno hnx hx hh hO
      have hki : (k : Int) < (L.length : Int) := by omega
      have hk0 : (0 : Int) ≤ (k : Int) := by omega
      have hws := hbw.size
      have hl1 := hheld.lt
      have hl0 : w.heap.size < wr.heap.size := by omega
      obtain ⟨e0, e1, _, _⟩ := hband.two
      obtain ⟨f0, f1, f2, _, _, _⟩ := hheld.three
      go_wp2_with fail
      refine (HST.out _).mono ?_
      rintro e w2 ⟨rfl, hb2⟩
      clear e0 e1 f0 f1 f2 h0 h1
      have P2 := (Blk.new wr 27 #[.int .i64 x.v, .int .i64 x.t]).below hb2 (by first | omega | (simp; done) | (simp; omega) | (simp at *; omega))
      have hband2 := (hband.alloc (.cells #[.int .i64 x.v, .int .i64 x.t] 27)).below hb2 (by first | omega | (simp; done) | (simp; omega) | (simp at *; omega))
      have hheld2 := (hheld.alloc (.cells #[.int .i64 x.v, .int .i64 x.t] 27)).below hb2 (by first | omega | (simp; done) | (simp; omega) | (simp at *; omega))
      have hown2 := (hown.alloc (.cells #[.int .i64 x.v, .int .i64 x.t] 27)).below hb2
      have hw2 := hb2.size; try simp only [World.size_alloc] at hw2
      have hbw2 : Below w.heap.size w w2 := by (repeat (first | (with_reducible assumption) | (with_reducible exact Below.refl _ _) | ((with_reducible refine Below.setCell ?_ ?_ _); rotate_left; · (first | omega | (simp; done) | (simp; omega) | (simp at *; omega))) | ((with_reducible refine Below.alloc ?_ ?_ _); rotate_left; · (first | omega | (simp; done) | (simp; omega) | (simp at *; omega))) | (with_reducible refine Below.drew ?_) | (with_reducible refine below_drewN ?_ _) | ((refine Below.trans ?_ (Below.mono (by with_reducible assumption) ?_)); rotate_left; · (first | omega | (simp; done) | (simp; omega) | (simp at *; omega)))))
      clear hb2 hband hheld hown
      obtain ⟨e0, e1, _, _⟩ := P2.two
      obtain ⟨f0, f1, f2, f3, f4, f5⟩ := hheld2.three
      have hl2 : wr.heap.size < w2.heap.size := by omega
      have hl3 : w.heap.size + 1 < w2.heap.size := by omega
      obtain ⟨y, hy⟩ : ∃ y, y = next b h x := ⟨_, rfl⟩
      rw [← hy] at HNX ⊢
      clear hy
      have k3 : O.length + 1 ≤ maxLen := by unfold maxLen; omega
      have k4 : (O.length + 1) * 16 ≤ 140737488355328 := by omega
      have hw2a : w.heap.size + 2 ≤ w2.heap.size := by omega
      have hne1 := own_ne hown2 (show w.heap.size < w.heap.size + 2 by omega)
      have hne2 := own_ne hown2 (show w.heap.size + 1 < w.heap.size + 2 by omega)
      have HNE1 := Lib.hid hne1
      have HNE2 := Lib.hid hne2
      have HOLT := Lib.hid hown2.1.lt
      have K2 := Lib.hid (two_ints x)
      have KG := Lib.hid hgx
      clear hne1 hne2 hgx
      obtain ⟨V, hV⟩ : ∃ V, V = (((w2.setCell ⟨w.heap.size + 1, 0, none⟩ (.bool y.has)).setCell ⟨w.heap.size + 1, 1, none⟩ (.int .i64 y.v)).setCell ⟨w.heap.size + 1, 2, none⟩ (.int .i64 y.t)) := ⟨_, rfl⟩
      have hVo := OwnG.far (p := ⟨w.heap.size + 1, 2, none⟩) (OwnG.far (p := ⟨w.heap.size + 1, 1, none⟩) (OwnG.far (p := ⟨w.heap.size + 1, 0, none⟩) hown2 (by simp) (.bool y.has)) (by simp) (.int .i64 y.v)) (by simp) (.int .i64 y.t)
      rw [← hV] at hVo
      have hVs : V.heap.size = w2.heap.size := by rw [hV]; simp
      have hVb : Blk V w.heap.size 23 #[.int .i64 b.dead, .int .i64 b.quiet] := by
        rw [hV]
        exact Blk.far (p := ⟨w.heap.size + 1, 2, none⟩) (Blk.far (p := ⟨w.heap.size + 1, 1, none⟩) (Blk.far (p := ⟨w.heap.size + 1, 0, none⟩) hband2 (by simp) _) (by simp) _) (by simp) _
      have hVh : Blk V (w.heap.size + 1) 25 #[.bool y.has, .int .i64 y.v, .int .i64 y.t] := by
        rw [hV]
        exact ((hheld2.set_ 0 (.bool y.has)).set_ 1 (.int .i64 y.v)).set_ 2 (.int .i64 y.t)
      have hVw : Below w.heap.size w V := by
        rw [hV]
        exact ((hbw2.setCell (p := ⟨w.heap.size + 1, 0, none⟩) (by simp) _).setCell (p := ⟨w.heap.size + 1, 1, none⟩) (by simp) _).setCell (p := ⟨w.heap.size + 1, 2, none⟩) (by simp) _
      have HV := Lib.hid hV
      have HVS := Lib.hid hVs
      have HVO := Lib.hid hVo
      have HVB := Lib.hid hVb
      have HVH := Lib.hid hVh
      have HVW := Lib.hid hVw
      clear hV hVs hVo hVb hVh hVw hown2 hband2 hheld2 hbw2
      cases htold : told b h x with
      | true =>
        have HON := Lib.hid (HY.out htold)
        clear htold
        have HOW := Lib.hid ((HVO.out.alloc (.cells #[.bool y.has, .int .i64 y.v, .int .i64 y.t] 25)).alloc (.cells #[.int .i64 x.v, .int .i64 x.t] 27))
        have HNW := Lib.hid (World.news_of_block (w := ((V.alloc (.cells #[.bool y.has, .int .i64 y.v, .int .i64 y.t] 25)).alloc (.cells #[.int .i64 x.v, .int .i64 x.t] 27))) (B := w2.heap.size + 1) (cs := #[.int .i64 x.v, .int .i64 x.t]) (t := 27) (fr := (0, 0)) (by rw [show w2.heap.size + 1 = (V.alloc (.cells #[.bool y.has, .int .i64 y.v, .int .i64 y.t] 25)).heap.size by rw [World.size_alloc, HVS.out]]; exact heap_alloc_new _ _))
        have HK5 := Lib.hid (show w.heap.size + 2 ≤ ((V.alloc (.cells #[.bool y.has, .int .i64 y.v, .int .i64 y.t] 25)).alloc (.cells #[.int .i64 x.v, .int .i64 x.t] 27)).heap.size by rw [World.size_alloc, World.size_alloc, HVS.out]; omega)
        rw [HV.out] at HOW HNW HK5
        go_wp2_with (at_builtin; refine wpList_append_G _ rfl (.tmp 26) (.tmp 28) 33 rfl IsInt (w.heap.size + 2) 27 i0 _ 2 16 Try.underlying33 hi0 hz0 hz1 hz2 rfl (by omega) _ O.length (O.flatMap pcells) rfl HOW.out ⟨w2.heap.size + 1, 0, none⟩ 1 1 [.int .i64 x.v, .int .i64 x.t] rfl rfl HNW.out K2.out.1 k3 k4 HK5.out zero_ints K2.out.2 KG.out ?_; intro v' w3 hown3 hgrow; rw [← HV.out] at hgrow)
        go_roundg (L.length - (k + 1))
        case measure => omega
        case rel =>
          have hk5 := HK5.out
          rw [← HV.out] at hk5
          refine ⟨k + 1, by omega, rfl, by go_num, ?_, ((HVB.out.alloc _).alloc _).grown hgrow HNE1.out, ?_, ?_⟩
          · rw [HON.out, List.length_append, List.flatMap_append]; simpa [pcells] using hown3
          · rw [HNX.out]; exact ((HVH.out.alloc _).alloc _).grown hgrow HNE2.out
          · exact ((HVW.out.alloc (by rw [HVS.out]; omega) _).alloc (by rw [World.size_alloc, HVS.out]; omega) _).grown hgrow (by omega) (fun q hq => by have := (HOLT.out q hq).1; omega)
      | false =>
        have HON := Lib.hid (HN.out htold)
        clear htold
        go_wp2_with fail
        go_roundg (L.length - (k + 1))
        case measure => omega
        case rel =>
          rw [← HV.out]
          refine ⟨k + 1, by omega, rfl, by go_num, ?_, HVB.out.alloc _, ?_, ?_⟩
          · rw [HON.out]; exact HVO.out.alloc _
          · rw [HNX.out]; exact HVH.out.alloc _
          · exact HVW.out.alloc (by rw [HVS.out]; omega) _
    · obtain rfl : k = L.length := by omega
      have hki : ¬ (L.length : Int) < (L.length : Int) := by omega
      have HO := Lib.hid (own_mono hown (show w.heap.size ≤ w.heap.size + 2 by omega))
      clear hown hband hheld
      go_wp2
      go_ret
      exact ⟨_, rfl, HO.out, hbw⟩
end Go.Proofs.Ytjidfcogcgaclaa
