/-
  What is proved here: what the reference tells of many points (chapter 7). Conditions: none beyond each theorem's own.
-/
import Derived.Test.YtjidfcogcgaclaaBandRun
import Derived.Deep.RegionWith
namespace Go.Proofs.Ytjidfcogcgaclaa
open Go.RowKit Go.Deep
attribute [local go_sem high] eq_point ne_point eqp_self

theorem ref_keep {w wr W : World} {a0 a1 a2 a3 a4 a5 a6 : Value} {bb o : Nat} (hB : Below wr.heap.size wr W)
    (e0 : wr.cell? ⟨w.heap.size, 0, none⟩ = some a0) (e1 : wr.cell? ⟨w.heap.size, 1, none⟩ = some a1) (f0 : wr.cell? ⟨w.heap.size + 1, 0, none⟩ = some a2) (f1 : wr.cell? ⟨w.heap.size + 1, 1, none⟩ = some a3) (f2 : wr.cell? ⟨w.heap.size + 1, 2, none⟩ = some a4)
    (h0 : wr.cell? ⟨bb, o, none⟩ = some a5) (h1 : wr.cell? ⟨bb, o + 1, none⟩ = some a6) (l0 : w.heap.size < wr.heap.size) (l1 : w.heap.size + 1 < wr.heap.size) (l2 : bb < wr.heap.size) :
    W.cell? ⟨w.heap.size, 0, none⟩ = some a0 ∧ W.cell? ⟨w.heap.size, 1, none⟩ = some a1 ∧ W.cell? ⟨w.heap.size + 1, 0, none⟩ = some a2 ∧ W.cell? ⟨w.heap.size + 1, 1, none⟩ = some a3 ∧ W.cell? ⟨w.heap.size + 1, 2, none⟩ = some a4 ∧
      W.cell? ⟨bb, o, none⟩ = some a5 ∧ W.cell? ⟨bb, o + 1, none⟩ = some a6 ∧ wr.heap.size ≤ W.heap.size ∧ Below wr.heap.size wr W :=
  ⟨(hB.cell (p := ⟨w.heap.size, 0, none⟩) l0).trans e0, (hB.cell (p := ⟨w.heap.size, 1, none⟩) l0).trans e1, (hB.cell (p := ⟨w.heap.size + 1, 0, none⟩) l1).trans f0, (hB.cell (p := ⟨w.heap.size + 1, 1, none⟩) l1).trans f1, (hB.cell (p := ⟨w.heap.size + 1, 2, none⟩) l1).trans f2,
    (hB.cell (p := ⟨bb, o, none⟩) l2).trans h0, (hB.cell (p := ⟨bb, o + 1, none⟩) l2).trans h1, hB.size, hB⟩

set_option maxRecDepth 100000 in
set_option maxHeartbeats 6000000 in
theorem rrun_any (A : Option Addr) (ca : Nat) (b : Band) (L : List Point) (w : World) (hA : PointsAt w A L) (hlen : L.length * 16 ≤ 140737488351232)
    (hL : ∀ i, i < L.length → I64 (L.getD i p0).v ∧ I64 (L.getD i p0).t) (hd : I64 b.dead) (hq : I64 b.quiet) :
    Calls Try.prog 16 #[.agg #[.int .i64 b.dead, .int .i64 b.quiet], .slice A L.length ca] w (NewList w (outTo b L L.length)) := by
  obtain ⟨i0, hi0, hz0, hz1, hz2⟩ := info_parts infoP
  have HA := Lib.hid hA
  have HL := Lib.hid hL
  have HDQ := Lib.hid (And.intro hd hq)
  clear hA hL hd hq
  go_enter Try.func16, Try.ntmps16
  go_wp2
  have S0 := Blk.alloc (Blk.new w 23 #[.int .i64 b.dead, .int .i64 b.quiet]) (.cells #[.bool false, .int .i64 0, .int .i64 0] 25)
  have S1 := Blk.new (w.alloc (.cells #[.int .i64 b.dead, .int .i64 b.quiet] 23)) 25 #[.bool false, .int .i64 0, .int .i64 0]
  have S2 : Below w.heap.size w ((w.alloc (.cells #[.int .i64 b.dead, .int .i64 b.quiet] 23)).alloc (.cells #[.bool false, .int .i64 0, .int .i64 0] 25)) := by (repeat (first | (with_reducible assumption) | (with_reducible exact Below.refl _ _) | ((with_reducible refine Below.setCell ?_ ?_ _); rotate_left; · (first | omega | (simp; done) | (simp; omega) | (simp at *; omega))) | ((with_reducible refine Below.alloc ?_ ?_ _); rotate_left; · (first | omega | (simp; done) | (simp; omega) | (simp at *; omega))) | (with_reducible refine Below.drew ?_) | (with_reducible refine below_drewN ?_ _) | ((refine Below.trans ?_ (Below.mono (by with_reducible assumption) ?_)); rotate_left; · (first | omega | (simp; done) | (simp; omega) | (simp at *; omega)))))
  simp only [World.size_alloc] at S1
  have HS0 := Lib.hid S0
  have HS1 := Lib.hid S1
  have HS2 := Lib.hid S2
  clear S0 S1 S2
  go_loopg [5, 7] L.length (fun g ov i wr => ∃ k : Nat, k ≤ L.length ∧ g = L.length - k ∧ i = .int .i64 k ∧ OwnG IsInt wr (w.heap.size + 2) 27 2 ov (outTo b L k).length ((outTo b L k).flatMap pcells) ∧
    Blk wr w.heap.size 23 #[.int .i64 b.dead, .int .i64 b.quiet] ∧ Blk wr (w.heap.size + 1) 25 #[.bool (heldTo b L k).has, .int .i64 (heldTo b L k).v, .int .i64 (heldTo b L k).t] ∧ Below w.heap.size w wr)
  case atStart => exact ⟨0, Nat.zero_le _, rfl, rfl, OwnG.nil_ _ _ _ 2, HS0.out, HS1.out, HS2.out⟩
  case round =>
    clear HS0 HS1 HS2
    obtain ⟨k, hk, rfl, rfl, hown, hband, hheld, hbw⟩ := hrel
    by_cases hlt : k < L.length
    · obtain ⟨bb, off, rfl, hb, hS⟩ := HA.out (by omega)
      obtain ⟨c0, c1⟩ := hS k hlt
      have h0 := (hbw.cell (p := ⟨bb, off + k * 2, none⟩) hb).trans c0
      have h1 := (hbw.cell (p := ⟨bb, off + k * 2 + 1, none⟩) hb).trans c1
      have hfit := held_fit b L HL.out k (by omega)
      have hpf := HL.out k hlt
      have hol := out_len b L k
      have hgx := pcells_int (outTo b L k)
      have hyes := @out_yes b L k
      have hno := @out_no b L k
      have hnx : heldTo b L (k + 1) = next b (heldTo b L k) (L.getD k p0) := rfl
      obtain ⟨x, hx⟩ : ∃ x, x = L.getD k p0 := ⟨_, rfl⟩
      rw [← hx] at h0 h1 hpf hyes hno hnx
      obtain ⟨h, hh⟩ : ∃ h, h = heldTo b L k := ⟨_, rfl⟩
      rw [← hh] at hheld hfit hyes hno hnx
      obtain ⟨O, hO⟩ : ∃ O, O = outTo b L k := ⟨_, rfl⟩
      rw [← hO] at hown hgx hyes hno hol
      have HST := Lib.hid (fun W => rstep_any b h x W hpf.1 hfit.1 hpf.2 hfit.2 HDQ.out.1 HDQ.out.2)
      have HY := Lib.hid hyes
      have HN := Lib.hid hno
      have HNX := Lib.hid hnx
      clear c0 c1 hS hfit hpf hyes hno hnx hx hh hO
      have hki : (k : Int) < (L.length : Int) := by omega
      have hk0 : (0 : Int) ≤ (k : Int) := by omega
      have hws := hbw.size
      have hl1 := hheld.lt
      have hl0 : w.heap.size < wr.heap.size := by omega
      obtain ⟨e0, e1, _, _⟩ := hband.two
      obtain ⟨f0, f1, f2, _, _, _⟩ := hheld.three
      go_wp2_with fail
      go_region_held3 (fun w' => w'.cell? ⟨w.heap.size, 0, none⟩ = some (.int .i64 b.dead) ∧ w'.cell? ⟨w.heap.size, 1, none⟩ = some (.int .i64 b.quiet) ∧
          w'.cell? ⟨w.heap.size + 1, 0, none⟩ = some (.bool h.has) ∧ w'.cell? ⟨w.heap.size + 1, 1, none⟩ = some (.int .i64 h.v) ∧ w'.cell? ⟨w.heap.size + 1, 2, none⟩ = some (.int .i64 h.t) ∧
          w'.cell? ⟨bb, off + k * 2, none⟩ = some (.int .i64 x.v) ∧ w'.cell? ⟨bb, off + k * 2 + 1, none⟩ = some (.int .i64 x.t) ∧ wr.heap.size ≤ w'.heap.size ∧ Below wr.heap.size wr w')
        ((go_split_ands; refine ref_keep ?_ e0 e1 f0 f1 f2 h0 h1 hl0 hl1 (by omega); (repeat (first | (with_reducible assumption) | (with_reducible exact Below.refl _ _) | ((with_reducible refine Below.setCell ?_ ?_ _); rotate_left; · (first | omega | (simp; done) | (simp; omega) | (simp at *; omega))) | ((with_reducible refine Below.alloc ?_ ?_ _); rotate_left; · (first | omega | (simp; done) | (simp; omega) | (simp at *; omega))) | (with_reducible refine Below.drew ?_) | (with_reducible refine below_drewN ?_ _) | ((refine Below.trans ?_ (Below.mono (by with_reducible assumption) ?_)); rotate_left; · (first | omega | (simp; done) | (simp; omega) | (simp at *; omega)))))))
        (first
          | (go_at_call 10; refine (HST.out _).mono ?_; rintro e w2 ⟨rfl, hb2⟩; (try go_split_ands); (try (have B2 := ((Blk.new wr 25 #[.bool false, .int .i64 0, .int .i64 0]).drew).below hb2 (by simp); obtain ⟨q0, q1, q2, q3, q4, q5⟩ := B2.three)); have hk2 : Below wr.heap.size wr w2 := (by (repeat (first | (with_reducible assumption) | (with_reducible exact Below.refl _ _) | ((with_reducible refine Below.setCell ?_ ?_ _); rotate_left; · (first | omega | (simp; done) | (simp; omega) | (simp at *; omega))) | ((with_reducible refine Below.alloc ?_ ?_ _); rotate_left; · (first | omega | (simp; done) | (simp; omega) | (simp at *; omega))) | (with_reducible refine Below.drew ?_) | (with_reducible refine below_drewN ?_ _) | ((refine Below.trans ?_ (Below.mono (by with_reducible assumption) ?_)); rotate_left; · (first | omega | (simp; done) | (simp; omega) | (simp at *; omega)))))); have hs2 := hk2.size))
      · have hband2 := hband.below hk2 (by first | omega | (simp; done) | (simp; omega) | (simp at *; omega))
        have hheld2 := hheld.below hk2 (by first | omega | (simp; done) | (simp; omega) | (simp at *; omega))
        have hown2 := hown.below hk2
        have hbw2 : Below w.heap.size w w2 := hbw.trans (hk2.mono hws)
        have x0 := (hk2.cell (p := ⟨bb, off + k * 2, none⟩) (by show bb < _; omega)).trans h0
        have x1 := (hk2.cell (p := ⟨bb, off + k * 2 + 1, none⟩) (by show bb < _; omega)).trans h1
        clear e0 e1 f0 f1 f2 h0 h1 hband hheld hown
        obtain ⟨f0, f1, f2, f3, f4, f5⟩ := hheld2.three
        have hl3 : w.heap.size + 1 < w2.heap.size := by omega
        have hl4 : bb < w2.heap.size := by omega
        have hn4 : bb ≠ w.heap.size + 1 := by omega
        have hn5 : wr.heap.size ≠ w.heap.size + 1 := by omega
        have hw2a : w.heap.size + 2 ≤ w2.heap.size := by omega
        obtain ⟨y, hy⟩ : ∃ y, y = next b h x := ⟨_, rfl⟩
        rw [← hy] at HNX
        try rw [← hy] at q0 q1 q2
        try rw [← hy]
        clear hy
        have k3 : O.length + 1 ≤ maxLen := by unfold maxLen; omega
        have k4 : (O.length + 1) * 16 ≤ 140737488355328 := by omega
        have hne1 := own_ne hown2 (show w.heap.size < w.heap.size + 2 by omega)
        have hne2 := own_ne hown2 (show w.heap.size + 1 < w.heap.size + 2 by omega)
        have HNE1 := Lib.hid hne1
        have HNE2 := Lib.hid hne2
        have HOLT := Lib.hid hown2.1.lt
        have K2 := Lib.hid (two_ints x)
        have KG := Lib.hid hgx
        clear hne1 hne2 hgx
        obtain ⟨V, hV⟩ : ∃ V, V = (((w2.setCell ⟨w.heap.size + 1, 0, none⟩ (.bool y.has)).setCell ⟨w.heap.size + 1, 1, none⟩ (.int .i64 y.v)).setCell ⟨w.heap.size + 1, 2, none⟩ (.int .i64 y.t)) := ⟨_, rfl⟩
        have hVo := OwnG.far (p := ⟨w.heap.size + 1, 2, none⟩) (OwnG.far (p := ⟨w.heap.size + 1, 1, none⟩) (OwnG.far (p := ⟨w.heap.size + 1, 0, none⟩) hown2 (by simp) (.bool y.has)) (by simp) (.int .i64 y.v)) (by simp) (.int .i64 y.t)
        rw [← hV] at hVo
        have hVs : V.heap.size = w2.heap.size := by rw [hV]; simp
        have hVb : Blk V w.heap.size 23 #[.int .i64 b.dead, .int .i64 b.quiet] := by
          rw [hV]
          exact Blk.far (p := ⟨w.heap.size + 1, 2, none⟩) (Blk.far (p := ⟨w.heap.size + 1, 1, none⟩) (Blk.far (p := ⟨w.heap.size + 1, 0, none⟩) hband2 (by simp) _) (by simp) _) (by simp) _
        have hVh : Blk V (w.heap.size + 1) 25 #[.bool y.has, .int .i64 y.v, .int .i64 y.t] := by
          rw [hV]
          exact ((hheld2.set_ 0 (.bool y.has)).set_ 1 (.int .i64 y.v)).set_ 2 (.int .i64 y.t)
        have hVw : Below w.heap.size w V := by
          rw [hV]
          exact ((hbw2.setCell (p := ⟨w.heap.size + 1, 0, none⟩) (by simp) _).setCell (p := ⟨w.heap.size + 1, 1, none⟩) (by simp) _).setCell (p := ⟨w.heap.size + 1, 2, none⟩) (by simp) _
        have HV := Lib.hid hV
        have HVS := Lib.hid hVs
        have HVO := Lib.hid hVo
        have HVB := Lib.hid hVb
        have HVH := Lib.hid hVh
        have HVW := Lib.hid hVw
        clear hV hVs hVo hVb hVh hVw hown2 hband2 hheld2 hbw2 hk2
        try clear hb2
        cases htold : told b h x with
        | true =>
          have HON := Lib.hid (HY.out htold)
          try rw [htold]
          clear htold
          have HOW := Lib.hid ((HVO.out.alloc (.cells #[.bool y.has, .int .i64 y.v, .int .i64 y.t] 25)).alloc (.cells #[.int .i64 x.v, .int .i64 x.t] 27))
          have HNW := Lib.hid (World.news_of_block (w := ((V.alloc (.cells #[.bool y.has, .int .i64 y.v, .int .i64 y.t] 25)).alloc (.cells #[.int .i64 x.v, .int .i64 x.t] 27))) (B := w2.heap.size + 1) (cs := #[.int .i64 x.v, .int .i64 x.t]) (t := 27) (fr := (0, 0)) (by rw [show w2.heap.size + 1 = (V.alloc (.cells #[.bool y.has, .int .i64 y.v, .int .i64 y.t] 25)).heap.size by rw [World.size_alloc, HVS.out]]; exact heap_alloc_new _ _))
          have HK5 := Lib.hid (show w.heap.size + 2 ≤ ((V.alloc (.cells #[.bool y.has, .int .i64 y.v, .int .i64 y.t] 25)).alloc (.cells #[.int .i64 x.v, .int .i64 x.t] 27)).heap.size by rw [World.size_alloc, World.size_alloc, HVS.out]; omega)
          rw [HV.out] at HOW HNW HK5
          go_wp2_with (at_builtin; refine wpList_append_G _ rfl (.tmp 29) (.tmp 34) 33 rfl IsInt (w.heap.size + 2) 27 i0 _ 2 16 Try.underlying33 hi0 hz0 hz1 hz2 rfl (by omega) _ O.length (O.flatMap pcells) rfl HOW.out ⟨w2.heap.size + 1, 0, none⟩ 1 1 [.int .i64 x.v, .int .i64 x.t] rfl rfl HNW.out K2.out.1 k3 k4 HK5.out zero_ints K2.out.2 KG.out ?_; intro v' w3 hown3 hgrow; rw [← HV.out] at hgrow)
          go_roundg (L.length - (k + 1))
          case measure => omega
          case rel =>
            have hk5 := HK5.out
            rw [← HV.out] at hk5
            refine ⟨k + 1, by omega, rfl, by go_num, ?_, ((HVB.out.alloc (.cells #[.bool y.has, .int .i64 y.v, .int .i64 y.t] 25)).alloc _).grown hgrow HNE1.out, ?_, ?_⟩
            · rw [HON.out, List.length_append, List.flatMap_append]; simpa [pcells] using hown3
            · rw [HNX.out]; exact ((HVH.out.alloc (.cells #[.bool y.has, .int .i64 y.v, .int .i64 y.t] 25)).alloc _).grown hgrow HNE2.out
            · exact ((HVW.out.alloc (by rw [HVS.out]; omega) _).alloc (by rw [World.size_alloc, HVS.out]; omega) _).grown hgrow (by omega) (fun q hq => by have := (HOLT.out q hq).1; omega)
        | false =>
          have HON := Lib.hid (HN.out htold)
          try rw [htold]
          clear htold
          go_wp2_with fail
          go_roundg (L.length - (k + 1))
          case measure => omega
          case rel =>
            rw [← HV.out]
            refine ⟨k + 1, by omega, rfl, by go_num, ?_, HVB.out.alloc _, ?_, ?_⟩
            · rw [HON.out]; exact HVO.out.alloc _
            · rw [HNX.out]; exact HVH.out.alloc _
            · exact (HVW.out.alloc (by rw [HVS.out]; omega) _)
      · have B3 := ((B2.set_ 0 (.bool (next b h x).has)).set_ 1 (.int .i64 (next b h x).v)).set_ 2 (.int .i64 (next b h x).t)
        have hk3 := ((hk2.setCell (p := ⟨wr.heap.size, 0, none⟩) (Nat.le_refl _) (.bool (next b h x).has)).setCell (p := ⟨wr.heap.size, 1, none⟩) (Nat.le_refl _) (.int .i64 (next b h x).v)).setCell (p := ⟨wr.heap.size, 2, none⟩) (Nat.le_refl _) (.int .i64 (next b h x).t)
        obtain ⟨U, hU⟩ : ∃ U, U = (((w2.setCell ⟨wr.heap.size, 0, none⟩ (.bool (next b h x).has)).setCell ⟨wr.heap.size, 1, none⟩ (.int .i64 (next b h x).v)).setCell ⟨wr.heap.size, 2, none⟩ (.int .i64 (next b h x).t)) := ⟨_, rfl⟩
        rw [← hU] at B3 hk3 ⊢
        clear hU q0 q1 q2 q3 q4 q5 hk2 hs2 B2
        have hk2 := hk3
        have hs2 := hk2.size
        have hl5 := B3.lt
        clear hk3
        obtain ⟨q0, q1, q2, q3, q4, q5⟩ := B3.three
        clear B3
        have hband2 := hband.below hk2 (by first | omega | (simp; done) | (simp; omega) | (simp at *; omega))
        have hheld2 := hheld.below hk2 (by first | omega | (simp; done) | (simp; omega) | (simp at *; omega))
        have hown2 := hown.below hk2
        have hbw2 : Below w.heap.size w U := hbw.trans (hk2.mono hws)
        have x0 := (hk2.cell (p := ⟨bb, off + k * 2, none⟩) (by show bb < _; omega)).trans h0
        have x1 := (hk2.cell (p := ⟨bb, off + k * 2 + 1, none⟩) (by show bb < _; omega)).trans h1
        clear e0 e1 f0 f1 f2 h0 h1 hband hheld hown
        obtain ⟨f0, f1, f2, f3, f4, f5⟩ := hheld2.three
        have hl3 : w.heap.size + 1 < U.heap.size := by omega
        have hl4 : bb < U.heap.size := by omega
        have hn4 : bb ≠ w.heap.size + 1 := by omega
        have hn5 : wr.heap.size ≠ w.heap.size + 1 := by omega
        have hw2a : w.heap.size + 2 ≤ U.heap.size := by omega
        obtain ⟨y, hy⟩ : ∃ y, y = next b h x := ⟨_, rfl⟩
        rw [← hy] at HNX
        try rw [← hy] at q0 q1 q2
        try rw [← hy]
        clear hy
        have k3 : O.length + 1 ≤ maxLen := by unfold maxLen; omega
        have k4 : (O.length + 1) * 16 ≤ 140737488355328 := by omega
        have hne1 := own_ne hown2 (show w.heap.size < w.heap.size + 2 by omega)
        have hne2 := own_ne hown2 (show w.heap.size + 1 < w.heap.size + 2 by omega)
        have HNE1 := Lib.hid hne1
        have HNE2 := Lib.hid hne2
        have HOLT := Lib.hid hown2.1.lt
        have K2 := Lib.hid (two_ints x)
        have KG := Lib.hid hgx
        clear hne1 hne2 hgx
        obtain ⟨V, hV⟩ : ∃ V, V = (((U.setCell ⟨w.heap.size + 1, 0, none⟩ (.bool y.has)).setCell ⟨w.heap.size + 1, 1, none⟩ (.int .i64 y.v)).setCell ⟨w.heap.size + 1, 2, none⟩ (.int .i64 y.t)) := ⟨_, rfl⟩
        have hVo := OwnG.far (p := ⟨w.heap.size + 1, 2, none⟩) (OwnG.far (p := ⟨w.heap.size + 1, 1, none⟩) (OwnG.far (p := ⟨w.heap.size + 1, 0, none⟩) hown2 (by simp) (.bool y.has)) (by simp) (.int .i64 y.v)) (by simp) (.int .i64 y.t)
        rw [← hV] at hVo
        have hVs : V.heap.size = U.heap.size := by rw [hV]; simp
        have hVb : Blk V w.heap.size 23 #[.int .i64 b.dead, .int .i64 b.quiet] := by
          rw [hV]
          exact Blk.far (p := ⟨w.heap.size + 1, 2, none⟩) (Blk.far (p := ⟨w.heap.size + 1, 1, none⟩) (Blk.far (p := ⟨w.heap.size + 1, 0, none⟩) hband2 (by simp) _) (by simp) _) (by simp) _
        have hVh : Blk V (w.heap.size + 1) 25 #[.bool y.has, .int .i64 y.v, .int .i64 y.t] := by
          rw [hV]
          exact ((hheld2.set_ 0 (.bool y.has)).set_ 1 (.int .i64 y.v)).set_ 2 (.int .i64 y.t)
        have hVw : Below w.heap.size w V := by
          rw [hV]
          exact ((hbw2.setCell (p := ⟨w.heap.size + 1, 0, none⟩) (by simp) _).setCell (p := ⟨w.heap.size + 1, 1, none⟩) (by simp) _).setCell (p := ⟨w.heap.size + 1, 2, none⟩) (by simp) _
        have HV := Lib.hid hV
        have HVS := Lib.hid hVs
        have HVO := Lib.hid hVo
        have HVB := Lib.hid hVb
        have HVH := Lib.hid hVh
        have HVW := Lib.hid hVw
        clear hV hVs hVo hVb hVh hVw hown2 hband2 hheld2 hbw2 hk2
        try clear hb2
        cases htold : told b h x with
        | true =>
          have HON := Lib.hid (HY.out htold)
          try rw [htold]
          clear htold
          have HOW := Lib.hid (HVO.out.alloc (.cells #[.int .i64 x.v, .int .i64 x.t] 27))
          have HNW := Lib.hid (World.news_of_block (w := ((V).alloc (.cells #[.int .i64 x.v, .int .i64 x.t] 27))) (B := U.heap.size) (cs := #[.int .i64 x.v, .int .i64 x.t]) (t := 27) (fr := (0, 0)) (by rw [← HVS.out]; exact heap_alloc_new _ _))
          have HK5 := Lib.hid (show w.heap.size + 2 ≤ ((V).alloc (.cells #[.int .i64 x.v, .int .i64 x.t] 27)).heap.size by rw [World.size_alloc, HVS.out]; omega)
          rw [HV.out] at HOW HNW HK5
          go_wp2_with (at_builtin; refine wpList_append_G _ rfl (.tmp 29) (.tmp 34) 33 rfl IsInt (w.heap.size + 2) 27 i0 _ 2 16 Try.underlying33 hi0 hz0 hz1 hz2 rfl (by omega) _ O.length (O.flatMap pcells) rfl HOW.out ⟨U.heap.size, 0, none⟩ 1 1 [.int .i64 x.v, .int .i64 x.t] rfl rfl HNW.out K2.out.1 k3 k4 HK5.out zero_ints K2.out.2 KG.out ?_; intro v' w3 hown3 hgrow; rw [← HV.out] at hgrow)
          go_roundg (L.length - (k + 1))
          case measure => omega
          case rel =>
            have hk5 := HK5.out
            rw [← HV.out] at hk5
            refine ⟨k + 1, by omega, rfl, by go_num, ?_, (HVB.out.alloc _).grown hgrow HNE1.out, ?_, ?_⟩
            · rw [HON.out, List.length_append, List.flatMap_append]; simpa [pcells] using hown3
            · rw [HNX.out]; exact (HVH.out.alloc _).grown hgrow HNE2.out
            · exact (HVW.out.alloc (by rw [HVS.out]; omega) _).grown hgrow (by omega) (fun q hq => by have := (HOLT.out q hq).1; omega)
        | false =>
          have HON := Lib.hid (HN.out htold)
          try rw [htold]
          clear htold
          go_wp2_with fail
          go_roundg (L.length - (k + 1))
          case measure => omega
          case rel =>
            rw [← HV.out]
            refine ⟨k + 1, by omega, rfl, by go_num, ?_, HVB.out, ?_, ?_⟩
            · rw [HON.out]; exact HVO.out
            · rw [HNX.out]; exact HVH.out
            · exact HVW.out
    · obtain rfl : k = L.length := by omega
      have hki : ¬ (L.length : Int) < (L.length : Int) := by omega
      have HO := Lib.hid (own_mono hown (show w.heap.size ≤ w.heap.size + 2 by omega))
      clear hown hband hheld
      go_wp2
      go_ret
      exact ⟨_, rfl, HO.out, hbw⟩
end Go.Proofs.Ytjidfcogcgaclaa
