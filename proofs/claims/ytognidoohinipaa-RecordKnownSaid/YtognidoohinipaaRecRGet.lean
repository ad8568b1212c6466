/-
  What is proved here: Get of the reference (chapter 11). Conditions: bytes are bytes.
-/
import Derived.Test.YtognidoohinipaaRecRAt
namespace Go.Proofs.Ytognidoohinipaa
open Go.RowKit Go.Deep Go.Joins Go.WideShapes

structure RSt (w0 w : World) (B : Nat) (r : Rec) : Prop where
  rcd : Blk w (B + 1) 23 r.cells
  res : Blk w B 23 zeroR.cells
  below : Below B w0 w
theorem RSt.put {w0 w : World} {B : Nat} {r : Rec} (h : RSt w0 w B r) (j : Nat) (u : Value) (r' : Rec) (e : r'.cells = r.cells.setIfInBounds j u) : RSt w0 (w.setCell ⟨B + 1, j, none⟩ u) B r' :=
  ⟨by rw [e]; exact h.rcd.set_ j u, h.res.far (p := ⟨B + 1, j, none⟩) (by show B ≠ B + 1; omega) u, h.below.setCell (by show B ≤ B + 1; omega) u⟩
theorem at_to (b off n cap i : Nat) (j x : Int) (L : List Int) (w : World) (hj : j = (i : Int)) (hx : val8 (L.drop i) = x) (hln : L.length = n) (hA : IntsAt .u8 w (some ⟨b, off, none⟩) L) (hL : ∀ x ∈ L, U8 x) (hi : i + 8 ≤ n) (hn : n ≤ 140737488351232) :
    Calls Try.prog 32 #[.slice (some ⟨b, off, none⟩) n cap, .int .i64 j] w fun e w' => e = .returned (.int .i64 x) ∧ w = w' := by
  subst hj hx
  exact at_any b off n cap i L w hln hA hL hi hn

set_option maxHeartbeats 400000 in
theorem len_1_short (b off n cap : Nat) (w : World) (h0 : w.cell? ⟨b, off, none⟩ = some (.int .u8 1)) (hn : 1 ≤ n) (h10 : n < 10) :
    Calls Try.prog 31 #[.slice (some ⟨b, off, none⟩) n cap] w fun e w' => e = .returned (.int .i64 (-1)) ∧ w = w' := by
  have n1 : (0 : Int) < (n : Int) := by omega
  have n2 : 0 < n := by omega
  have t1 : (n : Int) < 10 := by omega
  go_enter Try.func31, Try.ntmps31
  go_wp2_with (first | (go_at_call 23; (with_reducible refine (tagged_1 _).mono ?_); rintro e w' ⟨rfl, rfl⟩) | (go_at_call 24; (with_reducible refine (named_1 _).mono ?_); rintro e w' ⟨rfl, rfl⟩) | (go_at_call 25; (with_reducible refine (valued_1 _).mono ?_); rintro e w' ⟨rfl, rfl⟩) | fail)
  go_ret
  exact ⟨rfl, rfl⟩
set_option maxHeartbeats 400000 in
theorem len_1 (b off n cap : Nat) (y : Nat) (w : World) (h0 : w.cell? ⟨b, off, none⟩ = some (.int .u8 1)) (h9 : w.cell? ⟨b, off + 9, none⟩ = some (.int .u8 y)) (hy : y ≤ 255) (h10 : 10 ≤ n) :
    Calls Try.prog 31 #[.slice (some ⟨b, off, none⟩) n cap] w fun e w' => e = .returned (.int .i64 (10 + (y : Int) + 8)) ∧ w = w' := by
  have n1 : (0 : Int) < (n : Int) := by omega
  have n2 : 0 < n := by omega
  have n3 : (9 : Int) < (n : Int) := by omega
  have n4 : 9 < n := by omega
  have t1 : ¬ (n : Int) < 10 := by omega
  go_enter Try.func31, Try.ntmps31
  go_wp2_with (first | (go_at_call 23; (with_reducible refine (tagged_1 _).mono ?_); rintro e w' ⟨rfl, rfl⟩) | (go_at_call 24; (with_reducible refine (named_1 _).mono ?_); rintro e w' ⟨rfl, rfl⟩) | (go_at_call 25; (with_reducible refine (valued_1 _).mono ?_); rintro e w' ⟨rfl, rfl⟩) | fail)
  go_ret
  exact ⟨rfl, rfl⟩
set_option maxRecDepth 100000 in
set_option maxHeartbeats 1000000 in
theorem rget_1 (b off n cap : Nat) (L : List Int) (Rr : Rec) (E : Int) (w : World) (hln : L.length = n) (hA : IntsAt .u8 w (some ⟨b, off, none⟩) L) (hL : ∀ x ∈ L, U8 x) (hn : 1 ≤ n) (hn2 : n ≤ 140737488351232) (hcap : n ≤ cap) (hk : L.getD 0 0 = 1) (hR : getS L = (Rr, E)) :
    Calls Try.prog 16 #[.slice (some ⟨b, off, none⟩) n cap] w (GetBack Rr E w) := by
  have hA2 := hA
  obtain ⟨b', off', e', hbb, hcell⟩ := hA (by omega)
  cases e'
  have h0 := hcell 0 (by omega)
  rw [Nat.add_zero, hk] at h0
  have HL := Lib.hid hL
  have HN := Lib.hid hln
  have HC := Lib.hid hcell
  have HA := Lib.hid hA2
  have hkw : Within (1 : Int) 1 6 := ⟨by decide, by decide⟩
  have HS := Lib.hid (getS_tag (L := L) (fun t g v => ⟨1, t, g, v, 0⟩) (fun t M s h => by rw [getS_of (by rw [hln]; exact hn) hk.symm hkw h, if_pos (by omega)]))
  have HR := Lib.hid hR
  rw [hln] at HS
  have nz : ((n : Int) == 0) = false := by rw [beq_eq_false_iff_ne]; omega
  have k0 : 0 < n := by omega
  have n1 : (0 : Int) < (n : Int) := by omega
  clear hA hA2 hcell hL hln hR hk hkw
  go_enter Try.func16, Try.ntmps16
  go_upto_region 3 with fail
  go_cut [4] (fun s4 wx => s4 = .pointer (some ⟨w.heap.size + 1, 0, none⟩) ∧ RSt w wx w.heap.size ⟨1, 0, noG, 0, 0⟩)
  case first =>
    have HB0 := Lib.hid ((Blk.new w 23 #[.int .i64 0, .int .i64 0, .string { data := #[] }, .int .i64 0, .int .i64 0]).alloc (.cells #[.int .i64 1, .int .i64 0, .string { data := #[] }, .int .i64 0, .int .i64 0] 23))
    have hb1 := Blk.new (w.alloc (.cells #[.int .i64 0, .int .i64 0, .string { data := #[] }, .int .i64 0, .int .i64 0] 23)) 23 #[.int .i64 1, .int .i64 0, .string { data := #[] }, .int .i64 0, .int .i64 0]
    rw [World.size_alloc] at hb1
    have HB1 := Lib.hid hb1
    clear hb1
    go_wp2_with fail
    go_meet
    exact ⟨rfl, HB1.out, HB0.out, ((Below.refl _ _).alloc (Nat.le_refl _) _).alloc (by simp) _⟩
  case rest =>
  obtain ⟨rfl, hst⟩ := hcut
  obtain ⟨w1, rfl⟩ : ∃ wq : World, wq = wc := ⟨_, rfl⟩
  have HST := Lib.hid hst
  have HA1 := Lib.hid (HA.out.below HST.out.below (Nat.le_refl _))
  have h1 := (HST.out.below.cell (p := ⟨b, off, none⟩) hbb).trans h0
  have r0 : w1.cell? ⟨w.heap.size + 1, 0, none⟩ = some (.int .i64 1) := HST.out.rcd.cell 0
  have rl := HST.out.rcd.lt
  clear h0 hst
  by_cases h10 : n < 10
  · have hR := HR.out
    rw [HS.out.1 h10] at hR
    injection hR with hf3 hf4
    subst hf3 hf4
    have q0 : w1.cell? ⟨w.heap.size, 0, none⟩ = some (.int .i64 0) := HST.out.res.cell 0
    have q1 : w1.cell? ⟨w.heap.size, 1, none⟩ = some (.int .i64 0) := HST.out.res.cell 1
    have q2 : w1.cell? ⟨w.heap.size, 2, none⟩ = some (.string noG) := HST.out.res.cell 2
    have q3 : w1.cell? ⟨w.heap.size, 3, none⟩ = some (.int .i64 0) := HST.out.res.cell 3
    have q4 : w1.cell? ⟨w.heap.size, 4, none⟩ = some (.int .i64 0) := HST.out.res.cell 4
    have p0 := HST.out.res.frozen 0
    have p1 := HST.out.res.frozen 1
    have p2 := HST.out.res.frozen 2
    have p3 := HST.out.res.frozen 3
    have p4 := HST.out.res.frozen 4
    have ql := HST.out.res.lt
    have HB := Lib.hid HST.out.below
    clear HR HS
    go_wp2_with fail
    refine (len_1_short b off n cap _ h1 hn h10).mono ?_
    rintro e wq ⟨rfl, rfl⟩
    go_wp2_with (first | (go_at_call 23; (with_reducible refine (tagged_1 _).mono ?_); rintro e w' ⟨rfl, rfl⟩) | (go_at_call 24; (with_reducible refine (named_1 _).mono ?_); rintro e w' ⟨rfl, rfl⟩) | (go_at_call 25; (with_reducible refine (valued_1 _).mono ?_); rintro e w' ⟨rfl, rfl⟩) | fail)
    refine bodyPost_ret (v := .tuple #[.agg zeroR.cells, .int .i64 1]) ?_ rfl ⟨rfl, by have := HB.out; (repeat (first | (with_reducible assumption) | (with_reducible exact Below.refl _ _) | ((with_reducible refine Below.setCell ?_ ?_ _); rotate_left; · (first | omega | (simp; done) | (simp; omega) | (simp at *; omega))) | ((with_reducible refine Below.alloc ?_ ?_ _); rotate_left; · (first | omega | (simp; done) | (simp; omega) | (simp at *; omega))) | (with_reducible refine Below.drew ?_) | (with_reducible refine below_drewN ?_ _) | ((refine Below.trans ?_ (Below.mono (by with_reducible assumption) ?_)); rotate_left; · (first | omega | (simp; done) | (simp; omega) | (simp at *; omega)))))⟩
    simp [results, Try.results16, go_sem, q0, q1, q2, q3, q4]
    rfl
  have h10 : 10 ≤ n := by omega
  obtain ⟨y1, y2⟩ := getD_u8 HL.out 9
  obtain ⟨y, hy⟩ : ∃ y : Nat, (y : Int) = L.getD 9 0 := ⟨(L.getD 9 0).toNat, by omega⟩
  have hy2 : y ≤ 255 := by omega
  have h9 : w1.cell? ⟨b, off + 9, none⟩ = some (.int .u8 y) := by
    rw [hy]
    exact (HST.out.below.cell (p := ⟨b, off + 9, none⟩) hbb).trans (HC.out 9 (by rw [HN.out]; omega))
  have HSY := Lib.hid (HS.out.2 y hy h10)
  clear hy y1 y2
  by_cases hs1 : n < 18 + y
  · have hR := HR.out
    rw [HSY.out.1 hs1] at hR
    injection hR with hf3 hf4
    subst hf3 hf4
    have hsi : (n : Int) < (10 + (y : Int) + 8) := by omega
    have hyi : ¬ (10 + (y : Int) + 8) < 0 := by omega
    have q0 : w1.cell? ⟨w.heap.size, 0, none⟩ = some (.int .i64 0) := HST.out.res.cell 0
    have q1 : w1.cell? ⟨w.heap.size, 1, none⟩ = some (.int .i64 0) := HST.out.res.cell 1
    have q2 : w1.cell? ⟨w.heap.size, 2, none⟩ = some (.string noG) := HST.out.res.cell 2
    have q3 : w1.cell? ⟨w.heap.size, 3, none⟩ = some (.int .i64 0) := HST.out.res.cell 3
    have q4 : w1.cell? ⟨w.heap.size, 4, none⟩ = some (.int .i64 0) := HST.out.res.cell 4
    have p0 := HST.out.res.frozen 0
    have p1 := HST.out.res.frozen 1
    have p2 := HST.out.res.frozen 2
    have p3 := HST.out.res.frozen 3
    have p4 := HST.out.res.frozen 4
    have ql := HST.out.res.lt
    have HB := Lib.hid HST.out.below
    clear HR HS HSY
    go_wp2_with fail
    refine (len_1 b off n cap y _ h1 h9 hy2 h10).mono ?_
    rintro e wq ⟨rfl, rfl⟩
    go_wp2_with (first | (go_at_call 23; (with_reducible refine (tagged_1 _).mono ?_); rintro e w' ⟨rfl, rfl⟩) | (go_at_call 24; (with_reducible refine (named_1 _).mono ?_); rintro e w' ⟨rfl, rfl⟩) | (go_at_call 25; (with_reducible refine (valued_1 _).mono ?_); rintro e w' ⟨rfl, rfl⟩) | fail)
    refine bodyPost_ret (v := .tuple #[.agg zeroR.cells, .int .i64 1]) ?_ rfl ⟨rfl, by have := HB.out; (repeat (first | (with_reducible assumption) | (with_reducible exact Below.refl _ _) | ((with_reducible refine Below.setCell ?_ ?_ _); rotate_left; · (first | omega | (simp; done) | (simp; omega) | (simp at *; omega))) | ((with_reducible refine Below.alloc ?_ ?_ _); rotate_left; · (first | omega | (simp; done) | (simp; omega) | (simp at *; omega))) | (with_reducible refine Below.drew ?_) | (with_reducible refine below_drewN ?_ _) | ((refine Below.trans ?_ (Below.mono (by with_reducible assumption) ?_)); rotate_left; · (first | omega | (simp; done) | (simp; omega) | (simp at *; omega)))))⟩
    simp [results, Try.results16, go_sem, q0, q1, q2, q3, q4]
    rfl
  by_cases hs2 : 18 + y < n
  · have hR := HR.out
    rw [HSY.out.2.1 hs2] at hR
    injection hR with hf3 hf4
    subst hf3 hf4
    have hsi : ¬ (n : Int) < (10 + (y : Int) + 8) := by omega
    have hsj : (10 + (y : Int) + 8) < (n : Int) := by omega
    have hyi : ¬ (10 + (y : Int) + 8) < 0 := by omega
    have q0 : w1.cell? ⟨w.heap.size, 0, none⟩ = some (.int .i64 0) := HST.out.res.cell 0
    have q1 : w1.cell? ⟨w.heap.size, 1, none⟩ = some (.int .i64 0) := HST.out.res.cell 1
    have q2 : w1.cell? ⟨w.heap.size, 2, none⟩ = some (.string noG) := HST.out.res.cell 2
    have q3 : w1.cell? ⟨w.heap.size, 3, none⟩ = some (.int .i64 0) := HST.out.res.cell 3
    have q4 : w1.cell? ⟨w.heap.size, 4, none⟩ = some (.int .i64 0) := HST.out.res.cell 4
    have p0 := HST.out.res.frozen 0
    have p1 := HST.out.res.frozen 1
    have p2 := HST.out.res.frozen 2
    have p3 := HST.out.res.frozen 3
    have p4 := HST.out.res.frozen 4
    have ql := HST.out.res.lt
    have HB := Lib.hid HST.out.below
    clear HR HS HSY
    go_wp2_with fail
    refine (len_1 b off n cap y _ h1 h9 hy2 h10).mono ?_
    rintro e wq ⟨rfl, rfl⟩
    go_wp2_with (first | (go_at_call 23; (with_reducible refine (tagged_1 _).mono ?_); rintro e w' ⟨rfl, rfl⟩) | (go_at_call 24; (with_reducible refine (named_1 _).mono ?_); rintro e w' ⟨rfl, rfl⟩) | (go_at_call 25; (with_reducible refine (valued_1 _).mono ?_); rintro e w' ⟨rfl, rfl⟩) | fail)
    refine bodyPost_ret (v := .tuple #[.agg zeroR.cells, .int .i64 2]) ?_ rfl ⟨rfl, by have := HB.out; (repeat (first | (with_reducible assumption) | (with_reducible exact Below.refl _ _) | ((with_reducible refine Below.setCell ?_ ?_ _); rotate_left; · (first | omega | (simp; done) | (simp; omega) | (simp at *; omega))) | ((with_reducible refine Below.alloc ?_ ?_ _); rotate_left; · (first | omega | (simp; done) | (simp; omega) | (simp at *; omega))) | (with_reducible refine Below.drew ?_) | (with_reducible refine below_drewN ?_ _) | ((refine Below.trans ?_ (Below.mono (by with_reducible assumption) ?_)); rotate_left; · (first | omega | (simp; done) | (simp; omega) | (simp at *; omega)))))⟩
    simp [results, Try.results16, go_sem, q0, q1, q2, q3, q4]
    rfl
  have hfit : n = 18 + y := by omega
  have hR := HR.out
  rw [HSY.out.2.2 hfit] at hR
  have hsi : ¬ (n : Int) < (10 + (y : Int) + 8) := by omega
  have hsj : ¬ (10 + (y : Int) + 8) < (n : Int) := by omega
  have hyi : ¬ (10 + (y : Int) + 8) < 0 := by omega
  obtain ⟨vt, hvt⟩ : ∃ x, x = val8 (L.drop 1) := ⟨_, rfl⟩
  have HVT := Lib.hid hvt.symm
  rw [← hvt] at hR
  obtain ⟨g, hg⟩ : ∃ g, g = mkG ((L.drop 10).take y) := ⟨_, rfl⟩
  have HG := Lib.hid hg
  have hgs : g.size ≤ 9223372036854775807 := by rw [hg]; unfold mkG; rw [strOfNums_size, List.length_take]; omega
  rw [← hg] at hR
  clear hg
  obtain ⟨vv, hvv⟩ : ∃ x, x = val8 (L.drop (10 + y)) := ⟨_, rfl⟩
  have HVV := Lib.hid hvv.symm
  rw [← hvv] at hR
  have HF := Lib.hid hR
  have hfa : n ≤ 18 + y := by omega
  have hfb : 18 + y ≤ n := by omega
  have HFT := Lib.hid hfit
  clear hfit
  clear hR HR HS HSY hvt hs1 hs2 hvv
  go_wp2_with fail
  refine (len_1 b off n cap y _ h1 h9 hy2 h10).mono ?_
  rintro e wq ⟨rfl, rfl⟩
  go_wp2_with fail
  refine (at_to b off n cap 1 1 vt L _ rfl HVT.out HN.out HA1.out HL.out (by omega) hn2).mono ?_
  rintro e wq ⟨rfl, rfl⟩
  have c1 : w1.cell? ⟨w.heap.size + 1, 1, none⟩ = some (.int .i64 0) := HST.out.rcd.cell 1
  have f1 := HST.out.rcd.frozen 1
  have HS2 := Lib.hid (HST.out.put 1 (.int .i64 vt) ⟨1, vt, noG, 0, 0⟩ rfl)
  obtain ⟨w2, hw2⟩ : ∃ wq : World, wq = w1.setCell ⟨w.heap.size + 1, 1, none⟩ (.int .i64 vt) := ⟨_, rfl⟩
  go_upto_region 12 with fail
  rw [← hw2] at HS2 ⊢
  have H9 := Lib.hid (show w.cell? ⟨b, off + 9, none⟩ = some (.int .u8 y) from ((HST.out.below.cell (p := ⟨b, off + 9, none⟩) hbb).symm.trans h9))
  clear hw2 c1 f1 r0 rl h1 h9
  have r0 : w2.cell? ⟨w.heap.size + 1, 0, none⟩ = some (.int .i64 1) := HS2.out.rcd.cell 0
  have rl := HS2.out.rcd.lt
  have HAw2 := Lib.hid (HA.out.below HS2.out.below (Nat.le_refl _))
  have h9 : w2.cell? ⟨b, off + 9, none⟩ = some (.int .u8 y) := (HS2.out.below.cell (p := ⟨b, off + 9, none⟩) hbb).trans (H9.out)
  have n9 : 9 < n := by omega
  have n9i : (9 : Int) < (n : Int) := by omega
  have z0 : (10 : Int) ≤ 10 + (y : Int) := by omega
  have z1 : 10 + (y : Int) ≤ (cap : Int) := by omega
  have z2 : (10 : Int) ≤ (cap : Int) := by omega
  have hcc : ∀ i, i < L.length → w2.cell? ⟨b, off + i, none⟩ = some (.int .u8 (L.getD i 0)) := fun i hi => (HS2.out.below.cell (p := ⟨b, off + i, none⟩) hbb).trans (HC.out i hi)
  have hv := run_convert_bytes_arg (P := Try.prog) w2 24 5 Try.underlying24 Try.underlying5 b (off + 10) y (cap - 10) ((L.drop 10).take y) (by rw [List.length_take, List.length_drop, HN.out]; omega) (fun i hi => by
    rw [Nat.add_assoc, hcc (10 + i) (by rw [HN.out]; omega), ← getD_drop, List.getD_eq_getElem?_getD, List.getD_eq_getElem?_getD, List.getElem?_take, if_pos hi]) 9 Try.underlying9
  have hv2 : (convert 24 9 (.slice (some ⟨b, off + 10, none⟩) y (cap - 10))).run Try.prog w2 = .ok (.string g) w2 := by rw [HG.out]; exact hv
  have c2 : w2.cell? ⟨w.heap.size + 1, 2, none⟩ = some (.string noG) := HS2.out.rcd.cell 2
  have f2 := HS2.out.rcd.frozen 2
  have HS3 := Lib.hid (HS2.out.put 2 (.string g) ⟨1, vt, g, 0, 0⟩ rfl)
  obtain ⟨w3, hw3⟩ : ∃ wq : World, wq = w2.setCell ⟨w.heap.size + 1, 2, none⟩ (.string g) := ⟨_, rfl⟩
  clear hv hcc
  go_upto_region 14 with (first | (go_at_call 23; (with_reducible refine (tagged_1 _).mono ?_); rintro e w' ⟨rfl, rfl⟩) | (go_at_call 24; (with_reducible refine (named_1 _).mono ?_); rintro e w' ⟨rfl, rfl⟩) | (go_at_call 25; (with_reducible refine (valued_1 _).mono ?_); rintro e w' ⟨rfl, rfl⟩) | fail)
  go_upto_region 15 with fail
  go_upto_region 16 with fail
  rw [← hw3] at HS3 ⊢
  clear hw3 c2 f2 r0 rl h9 hv2 z0 z1 z2
  have r0 : w3.cell? ⟨w.heap.size + 1, 0, none⟩ = some (.int .i64 1) := HS3.out.rcd.cell 0
  have rl := HS3.out.rcd.lt
  have HAw3 := Lib.hid (HA.out.below HS3.out.below (Nat.le_refl _))
  go_wp2_with (first | (go_at_call 23; (with_reducible refine (tagged_1 _).mono ?_); rintro e w' ⟨rfl, rfl⟩) | (go_at_call 24; (with_reducible refine (named_1 _).mono ?_); rintro e w' ⟨rfl, rfl⟩) | (go_at_call 25; (with_reducible refine (valued_1 _).mono ?_); rintro e w' ⟨rfl, rfl⟩) | fail)
  refine (at_to b off n cap (10 + y) (10 + (y : Int)) vv L _ (by omega) HVV.out HN.out HAw3.out HL.out (by omega) hn2).mono ?_
  rintro e wq ⟨rfl, rfl⟩
  have c1 : w3.cell? ⟨w.heap.size + 1, 3, none⟩ = some (.int .i64 0) := HS3.out.rcd.cell 3
  have f1 := HS3.out.rcd.frozen 3
  have HS4 := Lib.hid (HS3.out.put 3 (.int .i64 vv) ⟨1, vt, g, vv, 0⟩ rfl)
  obtain ⟨w4, hww4⟩ : ∃ wq : World, wq = w3.setCell ⟨w.heap.size + 1, 3, none⟩ (.int .i64 vv) := ⟨_, rfl⟩
  go_upto_region 21 with (first | (go_at_call 23; (with_reducible refine (tagged_1 _).mono ?_); rintro e w' ⟨rfl, rfl⟩) | (go_at_call 24; (with_reducible refine (named_1 _).mono ?_); rintro e w' ⟨rfl, rfl⟩) | (go_at_call 25; (with_reducible refine (valued_1 _).mono ?_); rintro e w' ⟨rfl, rfl⟩) | fail)
  rw [← hww4] at HS4 ⊢
  clear hww4 c1 f1 r0 rl
  have r0 : w4.cell? ⟨w.heap.size + 1, 0, none⟩ = some (.int .i64 1) := HS4.out.rcd.cell 0
  have rl := HS4.out.rcd.lt
  have HAw4 := Lib.hid (HA.out.below HS4.out.below (Nat.le_refl _))
  have r1 : w4.cell? ⟨w.heap.size + 1, 1, none⟩ = some (.int .i64 vt) := HS4.out.rcd.cell 1
  have r2 : w4.cell? ⟨w.heap.size + 1, 2, none⟩ = some (.string g) := HS4.out.rcd.cell 2
  have r3 : w4.cell? ⟨w.heap.size + 1, 3, none⟩ = some (.int .i64 vv) := HS4.out.rcd.cell 3
  have r4 : w4.cell? ⟨w.heap.size + 1, 4, none⟩ = some (.int .i64 0) := HS4.out.rcd.cell 4
  obtain ⟨x, hx⟩ : ∃ x, x = recErr ⟨1, vt, g, vv, 0⟩ := ⟨_, rfl⟩
  have HX := Lib.hid hx
  have hf2 := HF.out
  unfold okR at hf2
  rw [← hx] at hf2
  have HF2 := Lib.hid hf2
  clear hf2 hx HF
  go_wp2_with (first | (go_at_call 23; (with_reducible refine (tagged_1 _).mono ?_); rintro e w' ⟨rfl, rfl⟩) | (go_at_call 24; (with_reducible refine (named_1 _).mono ?_); rintro e w' ⟨rfl, rfl⟩) | (go_at_call 25; (with_reducible refine (valued_1 _).mono ?_); rintro e w' ⟨rfl, rfl⟩) | fail)
  refine (rcheck_is 1 vt g vv 0 x _ hgs HX.out.symm).mono ?_
  rintro e w9 ⟨rfl, hb9⟩
  have HRS := Lib.hid (HS4.out.res.below hb9 HS4.out.res.lt)
  have HRC := Lib.hid (HS4.out.rcd.below hb9 HS4.out.rcd.lt)
  have HB := Lib.hid (HS4.out.below.trans (hb9.mono HS4.out.below.size))
  clear hb9 r0 r1 r2 r3 r4 rl
  have q0 : w9.cell? ⟨w.heap.size, 0, none⟩ = some (.int .i64 0) := HRS.out.cell 0
  have q1 : w9.cell? ⟨w.heap.size, 1, none⟩ = some (.int .i64 0) := HRS.out.cell 1
  have q2 : w9.cell? ⟨w.heap.size, 2, none⟩ = some (.string noG) := HRS.out.cell 2
  have q3 : w9.cell? ⟨w.heap.size, 3, none⟩ = some (.int .i64 0) := HRS.out.cell 3
  have q4 : w9.cell? ⟨w.heap.size, 4, none⟩ = some (.int .i64 0) := HRS.out.cell 4
  have p0 := HRS.out.frozen 0
  have p1 := HRS.out.frozen 1
  have p2 := HRS.out.frozen 2
  have p3 := HRS.out.frozen 3
  have p4 := HRS.out.frozen 4
  have ql := HRS.out.lt
  by_cases hx0 : x = 0
  · subst hx0
    have hf2 := HF2.out
    rw [if_pos rfl] at hf2
    injection hf2 with hf3 hf4
    subst hf3 hf4
    have r0 : w9.cell? ⟨w.heap.size + 1, 0, none⟩ = some (.int .i64 1) := HRC.out.cell 0
    have r1 : w9.cell? ⟨w.heap.size + 1, 1, none⟩ = some (.int .i64 vt) := HRC.out.cell 1
    have r2 : w9.cell? ⟨w.heap.size + 1, 2, none⟩ = some (.string g) := HRC.out.cell 2
    have r3 : w9.cell? ⟨w.heap.size + 1, 3, none⟩ = some (.int .i64 vv) := HRC.out.cell 3
    have r4 : w9.cell? ⟨w.heap.size + 1, 4, none⟩ = some (.int .i64 0) := HRC.out.cell 4
    have rl := HRC.out.lt
    clear HF2
    go_wp2_with fail
    refine bodyPost_ret (v := .tuple #[.agg (Rec.mk 1 vt g vv 0).cells, .int .i64 0]) ?_ rfl ⟨rfl, by have := HB.out; (repeat (first | (with_reducible assumption) | (with_reducible exact Below.refl _ _) | ((with_reducible refine Below.setCell ?_ ?_ _); rotate_left; · (first | omega | (simp; done) | (simp; omega) | (simp at *; omega))) | ((with_reducible refine Below.alloc ?_ ?_ _); rotate_left; · (first | omega | (simp; done) | (simp; omega) | (simp at *; omega))) | (with_reducible refine Below.drew ?_) | (with_reducible refine below_drewN ?_ _) | ((refine Below.trans ?_ (Below.mono (by with_reducible assumption) ?_)); rotate_left; · (first | omega | (simp; done) | (simp; omega) | (simp at *; omega)))))⟩
    simp [results, Try.results16, go_sem, q0, q1, q2, q3, q4]
    rfl
  · have hx1 : (x != 0) = true := by simp [hx0]
    have hf2 := HF2.out
    rw [if_neg hx0] at hf2
    injection hf2 with hf3 hf4
    subst hf3 hf4
    clear HF2 hx0
    go_wp2_with (first | (go_at_call 23; (with_reducible refine (tagged_1 _).mono ?_); rintro e w' ⟨rfl, rfl⟩) | (go_at_call 24; (with_reducible refine (named_1 _).mono ?_); rintro e w' ⟨rfl, rfl⟩) | (go_at_call 25; (with_reducible refine (valued_1 _).mono ?_); rintro e w' ⟨rfl, rfl⟩) | fail)
    refine bodyPost_ret (v := .tuple #[.agg zeroR.cells, .int .i64 x]) ?_ rfl ⟨rfl, by have := HB.out; (repeat (first | (with_reducible assumption) | (with_reducible exact Below.refl _ _) | ((with_reducible refine Below.setCell ?_ ?_ _); rotate_left; · (first | omega | (simp; done) | (simp; omega) | (simp at *; omega))) | ((with_reducible refine Below.alloc ?_ ?_ _); rotate_left; · (first | omega | (simp; done) | (simp; omega) | (simp at *; omega))) | (with_reducible refine Below.drew ?_) | (with_reducible refine below_drewN ?_ _) | ((refine Below.trans ?_ (Below.mono (by with_reducible assumption) ?_)); rotate_left; · (first | omega | (simp; done) | (simp; omega) | (simp at *; omega)))))⟩
    simp [results, Try.results16, go_sem, q0, q1, q2, q3, q4]
    rfl
set_option maxHeartbeats 400000 in
theorem len_2_short (b off n cap : Nat) (w : World) (h0 : w.cell? ⟨b, off, none⟩ = some (.int .u8 2)) (hn : 1 ≤ n) (h10 : n < 10) :
    Calls Try.prog 31 #[.slice (some ⟨b, off, none⟩) n cap] w fun e w' => e = .returned (.int .i64 (-1)) ∧ w = w' := by
  have n1 : (0 : Int) < (n : Int) := by omega
  have n2 : 0 < n := by omega
  have t1 : (n : Int) < 10 := by omega
  go_enter Try.func31, Try.ntmps31
  go_wp2_with (first | (go_at_call 23; (with_reducible refine (tagged_2 _).mono ?_); rintro e w' ⟨rfl, rfl⟩) | (go_at_call 24; (with_reducible refine (named_2 _).mono ?_); rintro e w' ⟨rfl, rfl⟩) | (go_at_call 25; (with_reducible refine (valued_2 _).mono ?_); rintro e w' ⟨rfl, rfl⟩) | fail)
  go_ret
  exact ⟨rfl, rfl⟩
set_option maxHeartbeats 400000 in
theorem len_2 (b off n cap : Nat) (y : Nat) (w : World) (h0 : w.cell? ⟨b, off, none⟩ = some (.int .u8 2)) (h9 : w.cell? ⟨b, off + 9, none⟩ = some (.int .u8 y)) (hy : y ≤ 255) (h10 : 10 ≤ n) :
    Calls Try.prog 31 #[.slice (some ⟨b, off, none⟩) n cap] w fun e w' => e = .returned (.int .i64 (10 + (y : Int) + 8)) ∧ w = w' := by
  have n1 : (0 : Int) < (n : Int) := by omega
  have n2 : 0 < n := by omega
  have n3 : (9 : Int) < (n : Int) := by omega
  have n4 : 9 < n := by omega
  have t1 : ¬ (n : Int) < 10 := by omega
  go_enter Try.func31, Try.ntmps31
  go_wp2_with (first | (go_at_call 23; (with_reducible refine (tagged_2 _).mono ?_); rintro e w' ⟨rfl, rfl⟩) | (go_at_call 24; (with_reducible refine (named_2 _).mono ?_); rintro e w' ⟨rfl, rfl⟩) | (go_at_call 25; (with_reducible refine (valued_2 _).mono ?_); rintro e w' ⟨rfl, rfl⟩) | fail)
  go_ret
  exact ⟨rfl, rfl⟩
set_option maxRecDepth 100000 in
set_option maxHeartbeats 1000000 in
theorem rget_2 (b off n cap : Nat) (L : List Int) (Rr : Rec) (E : Int) (w : World) (hln : L.length = n) (hA : IntsAt .u8 w (some ⟨b, off, none⟩) L) (hL : ∀ x ∈ L, U8 x) (hn : 1 ≤ n) (hn2 : n ≤ 140737488351232) (hcap : n ≤ cap) (hk : L.getD 0 0 = 2) (hR : getS L = (Rr, E)) :
    Calls Try.prog 16 #[.slice (some ⟨b, off, none⟩) n cap] w (GetBack Rr E w) := by
  have hA2 := hA
  obtain ⟨b', off', e', hbb, hcell⟩ := hA (by omega)
  cases e'
  have h0 := hcell 0 (by omega)
  rw [Nat.add_zero, hk] at h0
  have HL := Lib.hid hL
  have HN := Lib.hid hln
  have HC := Lib.hid hcell
  have HA := Lib.hid hA2
  have hkw : Within (2 : Int) 1 6 := ⟨by decide, by decide⟩
  have HS := Lib.hid (getS_tag (L := L) (fun t g v => ⟨2, t, g, v, 0⟩) (fun t M s h => by rw [getS_of (by rw [hln]; exact hn) hk.symm hkw h, if_pos (by omega)]))
  have HR := Lib.hid hR
  rw [hln] at HS
  have nz : ((n : Int) == 0) = false := by rw [beq_eq_false_iff_ne]; omega
  have k0 : 0 < n := by omega
  have n1 : (0 : Int) < (n : Int) := by omega
  clear hA hA2 hcell hL hln hR hk hkw
  go_enter Try.func16, Try.ntmps16
  go_upto_region 3 with fail
  go_cut [4] (fun s4 wx => s4 = .pointer (some ⟨w.heap.size + 1, 0, none⟩) ∧ RSt w wx w.heap.size ⟨2, 0, noG, 0, 0⟩)
  case first =>
    have HB0 := Lib.hid ((Blk.new w 23 #[.int .i64 0, .int .i64 0, .string { data := #[] }, .int .i64 0, .int .i64 0]).alloc (.cells #[.int .i64 2, .int .i64 0, .string { data := #[] }, .int .i64 0, .int .i64 0] 23))
    have hb1 := Blk.new (w.alloc (.cells #[.int .i64 0, .int .i64 0, .string { data := #[] }, .int .i64 0, .int .i64 0] 23)) 23 #[.int .i64 2, .int .i64 0, .string { data := #[] }, .int .i64 0, .int .i64 0]
    rw [World.size_alloc] at hb1
    have HB1 := Lib.hid hb1
    clear hb1
    go_wp2_with fail
    go_meet
    exact ⟨rfl, HB1.out, HB0.out, ((Below.refl _ _).alloc (Nat.le_refl _) _).alloc (by simp) _⟩
  case rest =>
  obtain ⟨rfl, hst⟩ := hcut
  obtain ⟨w1, rfl⟩ : ∃ wq : World, wq = wc := ⟨_, rfl⟩
  have HST := Lib.hid hst
  have HA1 := Lib.hid (HA.out.below HST.out.below (Nat.le_refl _))
  have h1 := (HST.out.below.cell (p := ⟨b, off, none⟩) hbb).trans h0
  have r0 : w1.cell? ⟨w.heap.size + 1, 0, none⟩ = some (.int .i64 2) := HST.out.rcd.cell 0
  have rl := HST.out.rcd.lt
  clear h0 hst
  by_cases h10 : n < 10
  · have hR := HR.out
    rw [HS.out.1 h10] at hR
    injection hR with hf3 hf4
    subst hf3 hf4
    have q0 : w1.cell? ⟨w.heap.size, 0, none⟩ = some (.int .i64 0) := HST.out.res.cell 0
    have q1 : w1.cell? ⟨w.heap.size, 1, none⟩ = some (.int .i64 0) := HST.out.res.cell 1
    have q2 : w1.cell? ⟨w.heap.size, 2, none⟩ = some (.string noG) := HST.out.res.cell 2
    have q3 : w1.cell? ⟨w.heap.size, 3, none⟩ = some (.int .i64 0) := HST.out.res.cell 3
    have q4 : w1.cell? ⟨w.heap.size, 4, none⟩ = some (.int .i64 0) := HST.out.res.cell 4
    have p0 := HST.out.res.frozen 0
    have p1 := HST.out.res.frozen 1
    have p2 := HST.out.res.frozen 2
    have p3 := HST.out.res.frozen 3
    have p4 := HST.out.res.frozen 4
    have ql := HST.out.res.lt
    have HB := Lib.hid HST.out.below
    clear HR HS
    go_wp2_with fail
    refine (len_2_short b off n cap _ h1 hn h10).mono ?_
    rintro e wq ⟨rfl, rfl⟩
    go_wp2_with (first | (go_at_call 23; (with_reducible refine (tagged_2 _).mono ?_); rintro e w' ⟨rfl, rfl⟩) | (go_at_call 24; (with_reducible refine (named_2 _).mono ?_); rintro e w' ⟨rfl, rfl⟩) | (go_at_call 25; (with_reducible refine (valued_2 _).mono ?_); rintro e w' ⟨rfl, rfl⟩) | fail)
    refine bodyPost_ret (v := .tuple #[.agg zeroR.cells, .int .i64 1]) ?_ rfl ⟨rfl, by have := HB.out; (repeat (first | (with_reducible assumption) | (with_reducible exact Below.refl _ _) | ((with_reducible refine Below.setCell ?_ ?_ _); rotate_left; · (first | omega | (simp; done) | (simp; omega) | (simp at *; omega))) | ((with_reducible refine Below.alloc ?_ ?_ _); rotate_left; · (first | omega | (simp; done) | (simp; omega) | (simp at *; omega))) | (with_reducible refine Below.drew ?_) | (with_reducible refine below_drewN ?_ _) | ((refine Below.trans ?_ (Below.mono (by with_reducible assumption) ?_)); rotate_left; · (first | omega | (simp; done) | (simp; omega) | (simp at *; omega)))))⟩
    simp [results, Try.results16, go_sem, q0, q1, q2, q3, q4]
    rfl
  have h10 : 10 ≤ n := by omega
  obtain ⟨y1, y2⟩ := getD_u8 HL.out 9
  obtain ⟨y, hy⟩ : ∃ y : Nat, (y : Int) = L.getD 9 0 := ⟨(L.getD 9 0).toNat, by omega⟩
  have hy2 : y ≤ 255 := by omega
  have h9 : w1.cell? ⟨b, off + 9, none⟩ = some (.int .u8 y) := by
    rw [hy]
    exact (HST.out.below.cell (p := ⟨b, off + 9, none⟩) hbb).trans (HC.out 9 (by rw [HN.out]; omega))
  have HSY := Lib.hid (HS.out.2 y hy h10)
  clear hy y1 y2
  by_cases hs1 : n < 18 + y
  · have hR := HR.out
    rw [HSY.out.1 hs1] at hR
    injection hR with hf3 hf4
    subst hf3 hf4
    have hsi : (n : Int) < (10 + (y : Int) + 8) := by omega
    have hyi : ¬ (10 + (y : Int) + 8) < 0 := by omega
    have q0 : w1.cell? ⟨w.heap.size, 0, none⟩ = some (.int .i64 0) := HST.out.res.cell 0
    have q1 : w1.cell? ⟨w.heap.size, 1, none⟩ = some (.int .i64 0) := HST.out.res.cell 1
    have q2 : w1.cell? ⟨w.heap.size, 2, none⟩ = some (.string noG) := HST.out.res.cell 2
    have q3 : w1.cell? ⟨w.heap.size, 3, none⟩ = some (.int .i64 0) := HST.out.res.cell 3
    have q4 : w1.cell? ⟨w.heap.size, 4, none⟩ = some (.int .i64 0) := HST.out.res.cell 4
    have p0 := HST.out.res.frozen 0
    have p1 := HST.out.res.frozen 1
    have p2 := HST.out.res.frozen 2
    have p3 := HST.out.res.frozen 3
    have p4 := HST.out.res.frozen 4
    have ql := HST.out.res.lt
    have HB := Lib.hid HST.out.below
    clear HR HS HSY
    go_wp2_with fail
    refine (len_2 b off n cap y _ h1 h9 hy2 h10).mono ?_
    rintro e wq ⟨rfl, rfl⟩
    go_wp2_with (first | (go_at_call 23; (with_reducible refine (tagged_2 _).mono ?_); rintro e w' ⟨rfl, rfl⟩) | (go_at_call 24; (with_reducible refine (named_2 _).mono ?_); rintro e w' ⟨rfl, rfl⟩) | (go_at_call 25; (with_reducible refine (valued_2 _).mono ?_); rintro e w' ⟨rfl, rfl⟩) | fail)
    refine bodyPost_ret (v := .tuple #[.agg zeroR.cells, .int .i64 1]) ?_ rfl ⟨rfl, by have := HB.out; (repeat (first | (with_reducible assumption) | (with_reducible exact Below.refl _ _) | ((with_reducible refine Below.setCell ?_ ?_ _); rotate_left; · (first | omega | (simp; done) | (simp; omega) | (simp at *; omega))) | ((with_reducible refine Below.alloc ?_ ?_ _); rotate_left; · (first | omega | (simp; done) | (simp; omega) | (simp at *; omega))) | (with_reducible refine Below.drew ?_) | (with_reducible refine below_drewN ?_ _) | ((refine Below.trans ?_ (Below.mono (by with_reducible assumption) ?_)); rotate_left; · (first | omega | (simp; done) | (simp; omega) | (simp at *; omega)))))⟩
    simp [results, Try.results16, go_sem, q0, q1, q2, q3, q4]
    rfl
  by_cases hs2 : 18 + y < n
  · have hR := HR.out
    rw [HSY.out.2.1 hs2] at hR
    injection hR with hf3 hf4
    subst hf3 hf4
    have hsi : ¬ (n : Int) < (10 + (y : Int) + 8) := by omega
    have hsj : (10 + (y : Int) + 8) < (n : Int) := by omega
    have hyi : ¬ (10 + (y : Int) + 8) < 0 := by omega
    have q0 : w1.cell? ⟨w.heap.size, 0, none⟩ = some (.int .i64 0) := HST.out.res.cell 0
    have q1 : w1.cell? ⟨w.heap.size, 1, none⟩ = some (.int .i64 0) := HST.out.res.cell 1
    have q2 : w1.cell? ⟨w.heap.size, 2, none⟩ = some (.string noG) := HST.out.res.cell 2
    have q3 : w1.cell? ⟨w.heap.size, 3, none⟩ = some (.int .i64 0) := HST.out.res.cell 3
    have q4 : w1.cell? ⟨w.heap.size, 4, none⟩ = some (.int .i64 0) := HST.out.res.cell 4
    have p0 := HST.out.res.frozen 0
    have p1 := HST.out.res.frozen 1
    have p2 := HST.out.res.frozen 2
    have p3 := HST.out.res.frozen 3
    have p4 := HST.out.res.frozen 4
    have ql := HST.out.res.lt
    have HB := Lib.hid HST.out.below
    clear HR HS HSY
    go_wp2_with fail
    refine (len_2 b off n cap y _ h1 h9 hy2 h10).mono ?_
    rintro e wq ⟨rfl, rfl⟩
    go_wp2_with (first | (go_at_call 23; (with_reducible refine (tagged_2 _).mono ?_); rintro e w' ⟨rfl, rfl⟩) | (go_at_call 24; (with_reducible refine (named_2 _).mono ?_); rintro e w' ⟨rfl, rfl⟩) | (go_at_call 25; (with_reducible refine (valued_2 _).mono ?_); rintro e w' ⟨rfl, rfl⟩) | fail)
    refine bodyPost_ret (v := .tuple #[.agg zeroR.cells, .int .i64 2]) ?_ rfl ⟨rfl, by have := HB.out; (repeat (first | (with_reducible assumption) | (with_reducible exact Below.refl _ _) | ((with_reducible refine Below.setCell ?_ ?_ _); rotate_left; · (first | omega | (simp; done) | (simp; omega) | (simp at *; omega))) | ((with_reducible refine Below.alloc ?_ ?_ _); rotate_left; · (first | omega | (simp; done) | (simp; omega) | (simp at *; omega))) | (with_reducible refine Below.drew ?_) | (with_reducible refine below_drewN ?_ _) | ((refine Below.trans ?_ (Below.mono (by with_reducible assumption) ?_)); rotate_left; · (first | omega | (simp; done) | (simp; omega) | (simp at *; omega)))))⟩
    simp [results, Try.results16, go_sem, q0, q1, q2, q3, q4]
    rfl
  have hfit : n = 18 + y := by omega
  have hR := HR.out
  rw [HSY.out.2.2 hfit] at hR
  have hsi : ¬ (n : Int) < (10 + (y : Int) + 8) := by omega
  have hsj : ¬ (10 + (y : Int) + 8) < (n : Int) := by omega
  have hyi : ¬ (10 + (y : Int) + 8) < 0 := by omega
  obtain ⟨vt, hvt⟩ : ∃ x, x = val8 (L.drop 1) := ⟨_, rfl⟩
  have HVT := Lib.hid hvt.symm
  rw [← hvt] at hR
  obtain ⟨g, hg⟩ : ∃ g, g = mkG ((L.drop 10).take y) := ⟨_, rfl⟩
  have HG := Lib.hid hg
  have hgs : g.size ≤ 9223372036854775807 := by rw [hg]; unfold mkG; rw [strOfNums_size, List.length_take]; omega
  rw [← hg] at hR
  clear hg
  obtain ⟨vv, hvv⟩ : ∃ x, x = val8 (L.drop (10 + y)) := ⟨_, rfl⟩
  have HVV := Lib.hid hvv.symm
  rw [← hvv] at hR
  have HF := Lib.hid hR
  have hfa : n ≤ 18 + y := by omega
  have hfb : 18 + y ≤ n := by omega
  have HFT := Lib.hid hfit
  clear hfit
  clear hR HR HS HSY hvt hs1 hs2 hvv
  go_wp2_with fail
  refine (len_2 b off n cap y _ h1 h9 hy2 h10).mono ?_
  rintro e wq ⟨rfl, rfl⟩
  go_wp2_with fail
  refine (at_to b off n cap 1 1 vt L _ rfl HVT.out HN.out HA1.out HL.out (by omega) hn2).mono ?_
  rintro e wq ⟨rfl, rfl⟩
  have c1 : w1.cell? ⟨w.heap.size + 1, 1, none⟩ = some (.int .i64 0) := HST.out.rcd.cell 1
  have f1 := HST.out.rcd.frozen 1
  have HS2 := Lib.hid (HST.out.put 1 (.int .i64 vt) ⟨2, vt, noG, 0, 0⟩ rfl)
  obtain ⟨w2, hw2⟩ : ∃ wq : World, wq = w1.setCell ⟨w.heap.size + 1, 1, none⟩ (.int .i64 vt) := ⟨_, rfl⟩
  go_upto_region 12 with fail
  rw [← hw2] at HS2 ⊢
  have H9 := Lib.hid (show w.cell? ⟨b, off + 9, none⟩ = some (.int .u8 y) from ((HST.out.below.cell (p := ⟨b, off + 9, none⟩) hbb).symm.trans h9))
  clear hw2 c1 f1 r0 rl h1 h9
  have r0 : w2.cell? ⟨w.heap.size + 1, 0, none⟩ = some (.int .i64 2) := HS2.out.rcd.cell 0
  have rl := HS2.out.rcd.lt
  have HAw2 := Lib.hid (HA.out.below HS2.out.below (Nat.le_refl _))
  have h9 : w2.cell? ⟨b, off + 9, none⟩ = some (.int .u8 y) := (HS2.out.below.cell (p := ⟨b, off + 9, none⟩) hbb).trans (H9.out)
  have n9 : 9 < n := by omega
  have n9i : (9 : Int) < (n : Int) := by omega
  have z0 : (10 : Int) ≤ 10 + (y : Int) := by omega
  have z1 : 10 + (y : Int) ≤ (cap : Int) := by omega
  have z2 : (10 : Int) ≤ (cap : Int) := by omega
  have hcc : ∀ i, i < L.length → w2.cell? ⟨b, off + i, none⟩ = some (.int .u8 (L.getD i 0)) := fun i hi => (HS2.out.below.cell (p := ⟨b, off + i, none⟩) hbb).trans (HC.out i hi)
  have hv := run_convert_bytes_arg (P := Try.prog) w2 24 5 Try.underlying24 Try.underlying5 b (off + 10) y (cap - 10) ((L.drop 10).take y) (by rw [List.length_take, List.length_drop, HN.out]; omega) (fun i hi => by
    rw [Nat.add_assoc, hcc (10 + i) (by rw [HN.out]; omega), ← getD_drop, List.getD_eq_getElem?_getD, List.getD_eq_getElem?_getD, List.getElem?_take, if_pos hi]) 9 Try.underlying9
  have hv2 : (convert 24 9 (.slice (some ⟨b, off + 10, none⟩) y (cap - 10))).run Try.prog w2 = .ok (.string g) w2 := by rw [HG.out]; exact hv
  have c2 : w2.cell? ⟨w.heap.size + 1, 2, none⟩ = some (.string noG) := HS2.out.rcd.cell 2
  have f2 := HS2.out.rcd.frozen 2
  have HS3 := Lib.hid (HS2.out.put 2 (.string g) ⟨2, vt, g, 0, 0⟩ rfl)
  obtain ⟨w3, hw3⟩ : ∃ wq : World, wq = w2.setCell ⟨w.heap.size + 1, 2, none⟩ (.string g) := ⟨_, rfl⟩
  clear hv hcc
  go_upto_region 14 with (first | (go_at_call 23; (with_reducible refine (tagged_2 _).mono ?_); rintro e w' ⟨rfl, rfl⟩) | (go_at_call 24; (with_reducible refine (named_2 _).mono ?_); rintro e w' ⟨rfl, rfl⟩) | (go_at_call 25; (with_reducible refine (valued_2 _).mono ?_); rintro e w' ⟨rfl, rfl⟩) | fail)
  go_upto_region 15 with fail
  go_upto_region 16 with fail
  rw [← hw3] at HS3 ⊢
  clear hw3 c2 f2 r0 rl h9 hv2 z0 z1 z2
  have r0 : w3.cell? ⟨w.heap.size + 1, 0, none⟩ = some (.int .i64 2) := HS3.out.rcd.cell 0
  have rl := HS3.out.rcd.lt
  have HAw3 := Lib.hid (HA.out.below HS3.out.below (Nat.le_refl _))
  go_wp2_with (first | (go_at_call 23; (with_reducible refine (tagged_2 _).mono ?_); rintro e w' ⟨rfl, rfl⟩) | (go_at_call 24; (with_reducible refine (named_2 _).mono ?_); rintro e w' ⟨rfl, rfl⟩) | (go_at_call 25; (with_reducible refine (valued_2 _).mono ?_); rintro e w' ⟨rfl, rfl⟩) | fail)
  refine (at_to b off n cap (10 + y) (10 + (y : Int)) vv L _ (by omega) HVV.out HN.out HAw3.out HL.out (by omega) hn2).mono ?_
  rintro e wq ⟨rfl, rfl⟩
  have c1 : w3.cell? ⟨w.heap.size + 1, 3, none⟩ = some (.int .i64 0) := HS3.out.rcd.cell 3
  have f1 := HS3.out.rcd.frozen 3
  have HS4 := Lib.hid (HS3.out.put 3 (.int .i64 vv) ⟨2, vt, g, vv, 0⟩ rfl)
  obtain ⟨w4, hww4⟩ : ∃ wq : World, wq = w3.setCell ⟨w.heap.size + 1, 3, none⟩ (.int .i64 vv) := ⟨_, rfl⟩
  go_upto_region 21 with (first | (go_at_call 23; (with_reducible refine (tagged_2 _).mono ?_); rintro e w' ⟨rfl, rfl⟩) | (go_at_call 24; (with_reducible refine (named_2 _).mono ?_); rintro e w' ⟨rfl, rfl⟩) | (go_at_call 25; (with_reducible refine (valued_2 _).mono ?_); rintro e w' ⟨rfl, rfl⟩) | fail)
  rw [← hww4] at HS4 ⊢
  clear hww4 c1 f1 r0 rl
  have r0 : w4.cell? ⟨w.heap.size + 1, 0, none⟩ = some (.int .i64 2) := HS4.out.rcd.cell 0
  have rl := HS4.out.rcd.lt
  have HAw4 := Lib.hid (HA.out.below HS4.out.below (Nat.le_refl _))
  have r1 : w4.cell? ⟨w.heap.size + 1, 1, none⟩ = some (.int .i64 vt) := HS4.out.rcd.cell 1
  have r2 : w4.cell? ⟨w.heap.size + 1, 2, none⟩ = some (.string g) := HS4.out.rcd.cell 2
  have r3 : w4.cell? ⟨w.heap.size + 1, 3, none⟩ = some (.int .i64 vv) := HS4.out.rcd.cell 3
  have r4 : w4.cell? ⟨w.heap.size + 1, 4, none⟩ = some (.int .i64 0) := HS4.out.rcd.cell 4
  obtain ⟨x, hx⟩ : ∃ x, x = recErr ⟨2, vt, g, vv, 0⟩ := ⟨_, rfl⟩
  have HX := Lib.hid hx
  have hf2 := HF.out
  unfold okR at hf2
  rw [← hx] at hf2
  have HF2 := Lib.hid hf2
  clear hf2 hx HF
  go_wp2_with (first | (go_at_call 23; (with_reducible refine (tagged_2 _).mono ?_); rintro e w' ⟨rfl, rfl⟩) | (go_at_call 24; (with_reducible refine (named_2 _).mono ?_); rintro e w' ⟨rfl, rfl⟩) | (go_at_call 25; (with_reducible refine (valued_2 _).mono ?_); rintro e w' ⟨rfl, rfl⟩) | fail)
  refine (rcheck_is 2 vt g vv 0 x _ hgs HX.out.symm).mono ?_
  rintro e w9 ⟨rfl, hb9⟩
  have HRS := Lib.hid (HS4.out.res.below hb9 HS4.out.res.lt)
  have HRC := Lib.hid (HS4.out.rcd.below hb9 HS4.out.rcd.lt)
  have HB := Lib.hid (HS4.out.below.trans (hb9.mono HS4.out.below.size))
  clear hb9 r0 r1 r2 r3 r4 rl
  have q0 : w9.cell? ⟨w.heap.size, 0, none⟩ = some (.int .i64 0) := HRS.out.cell 0
  have q1 : w9.cell? ⟨w.heap.size, 1, none⟩ = some (.int .i64 0) := HRS.out.cell 1
  have q2 : w9.cell? ⟨w.heap.size, 2, none⟩ = some (.string noG) := HRS.out.cell 2
  have q3 : w9.cell? ⟨w.heap.size, 3, none⟩ = some (.int .i64 0) := HRS.out.cell 3
  have q4 : w9.cell? ⟨w.heap.size, 4, none⟩ = some (.int .i64 0) := HRS.out.cell 4
  have p0 := HRS.out.frozen 0
  have p1 := HRS.out.frozen 1
  have p2 := HRS.out.frozen 2
  have p3 := HRS.out.frozen 3
  have p4 := HRS.out.frozen 4
  have ql := HRS.out.lt
  by_cases hx0 : x = 0
  · subst hx0
    have hf2 := HF2.out
    rw [if_pos rfl] at hf2
    injection hf2 with hf3 hf4
    subst hf3 hf4
    have r0 : w9.cell? ⟨w.heap.size + 1, 0, none⟩ = some (.int .i64 2) := HRC.out.cell 0
    have r1 : w9.cell? ⟨w.heap.size + 1, 1, none⟩ = some (.int .i64 vt) := HRC.out.cell 1
    have r2 : w9.cell? ⟨w.heap.size + 1, 2, none⟩ = some (.string g) := HRC.out.cell 2
    have r3 : w9.cell? ⟨w.heap.size + 1, 3, none⟩ = some (.int .i64 vv) := HRC.out.cell 3
    have r4 : w9.cell? ⟨w.heap.size + 1, 4, none⟩ = some (.int .i64 0) := HRC.out.cell 4
    have rl := HRC.out.lt
    clear HF2
    go_wp2_with fail
    refine bodyPost_ret (v := .tuple #[.agg (Rec.mk 2 vt g vv 0).cells, .int .i64 0]) ?_ rfl ⟨rfl, by have := HB.out; (repeat (first | (with_reducible assumption) | (with_reducible exact Below.refl _ _) | ((with_reducible refine Below.setCell ?_ ?_ _); rotate_left; · (first | omega | (simp; done) | (simp; omega) | (simp at *; omega))) | ((with_reducible refine Below.alloc ?_ ?_ _); rotate_left; · (first | omega | (simp; done) | (simp; omega) | (simp at *; omega))) | (with_reducible refine Below.drew ?_) | (with_reducible refine below_drewN ?_ _) | ((refine Below.trans ?_ (Below.mono (by with_reducible assumption) ?_)); rotate_left; · (first | omega | (simp; done) | (simp; omega) | (simp at *; omega)))))⟩
    simp [results, Try.results16, go_sem, q0, q1, q2, q3, q4]
    rfl
  · have hx1 : (x != 0) = true := by simp [hx0]
    have hf2 := HF2.out
    rw [if_neg hx0] at hf2
    injection hf2 with hf3 hf4
    subst hf3 hf4
    clear HF2 hx0
    go_wp2_with (first | (go_at_call 23; (with_reducible refine (tagged_2 _).mono ?_); rintro e w' ⟨rfl, rfl⟩) | (go_at_call 24; (with_reducible refine (named_2 _).mono ?_); rintro e w' ⟨rfl, rfl⟩) | (go_at_call 25; (with_reducible refine (valued_2 _).mono ?_); rintro e w' ⟨rfl, rfl⟩) | fail)
    refine bodyPost_ret (v := .tuple #[.agg zeroR.cells, .int .i64 x]) ?_ rfl ⟨rfl, by have := HB.out; (repeat (first | (with_reducible assumption) | (with_reducible exact Below.refl _ _) | ((with_reducible refine Below.setCell ?_ ?_ _); rotate_left; · (first | omega | (simp; done) | (simp; omega) | (simp at *; omega))) | ((with_reducible refine Below.alloc ?_ ?_ _); rotate_left; · (first | omega | (simp; done) | (simp; omega) | (simp at *; omega))) | (with_reducible refine Below.drew ?_) | (with_reducible refine below_drewN ?_ _) | ((refine Below.trans ?_ (Below.mono (by with_reducible assumption) ?_)); rotate_left; · (first | omega | (simp; done) | (simp; omega) | (simp at *; omega)))))⟩
    simp [results, Try.results16, go_sem, q0, q1, q2, q3, q4]
    rfl
set_option maxHeartbeats 400000 in
theorem len_3 (b off n cap : Nat) (w : World) (h0 : w.cell? ⟨b, off, none⟩ = some (.int .u8 3)) (hn : 1 ≤ n) :
    Calls Try.prog 31 #[.slice (some ⟨b, off, none⟩) n cap] w fun e w' => e = .returned (.int .i64 17) ∧ w = w' := by
  have n1 : (0 : Int) < (n : Int) := by omega
  have n2 : 0 < n := by omega
  go_enter Try.func31, Try.ntmps31
  go_wp2_with (first | (go_at_call 23; (with_reducible refine (tagged_3 _).mono ?_); rintro e w' ⟨rfl, rfl⟩) | (go_at_call 24; (with_reducible refine (named_3 _).mono ?_); rintro e w' ⟨rfl, rfl⟩) | (go_at_call 25; (with_reducible refine (valued_3 _).mono ?_); rintro e w' ⟨rfl, rfl⟩) | fail)
  go_ret
  exact ⟨rfl, rfl⟩
set_option maxRecDepth 100000 in
set_option maxHeartbeats 1000000 in
theorem rget_3 (b off n cap : Nat) (L : List Int) (Rr : Rec) (E : Int) (w : World) (hln : L.length = n) (hA : IntsAt .u8 w (some ⟨b, off, none⟩) L) (hL : ∀ x ∈ L, U8 x) (hn : 1 ≤ n) (hn2 : n ≤ 140737488351232) (hk : L.getD 0 0 = 3) (hR : getS L = (Rr, E)) :
    Calls Try.prog 16 #[.slice (some ⟨b, off, none⟩) n cap] w (GetBack Rr E w) := by
  have hA2 := hA
  obtain ⟨b', off', e', hbb, hcell⟩ := hA (by omega)
  cases e'
  have h0 := hcell 0 (by omega)
  rw [Nat.add_zero, hk] at h0
  have HL := Lib.hid hL
  have HN := Lib.hid hln
  have HC := Lib.hid hcell
  have HA := Lib.hid hA2
  have hkw : Within (3 : Int) 1 6 := ⟨by decide, by decide⟩
  have HS := Lib.hid (getS_one (L := L) (fun t v => ⟨3, t, noG, v, 0⟩) (fun t M s h => by rw [getS_of (by rw [hln]; exact hn) hk.symm hkw h, if_neg (by omega), if_neg (by omega), if_neg (by omega)]))
  have HR := Lib.hid hR
  rw [hln] at HS
  have nz : ((n : Int) == 0) = false := by rw [beq_eq_false_iff_ne]; omega
  have k0 : 0 < n := by omega
  have n1 : (0 : Int) < (n : Int) := by omega
  clear hA hA2 hcell hL hln hR hk hkw
  go_enter Try.func16, Try.ntmps16
  go_upto_region 3 with fail
  go_cut [4] (fun s4 wx => s4 = .pointer (some ⟨w.heap.size + 1, 0, none⟩) ∧ RSt w wx w.heap.size ⟨3, 0, noG, 0, 0⟩)
  case first =>
    have HB0 := Lib.hid ((Blk.new w 23 #[.int .i64 0, .int .i64 0, .string { data := #[] }, .int .i64 0, .int .i64 0]).alloc (.cells #[.int .i64 3, .int .i64 0, .string { data := #[] }, .int .i64 0, .int .i64 0] 23))
    have hb1 := Blk.new (w.alloc (.cells #[.int .i64 0, .int .i64 0, .string { data := #[] }, .int .i64 0, .int .i64 0] 23)) 23 #[.int .i64 3, .int .i64 0, .string { data := #[] }, .int .i64 0, .int .i64 0]
    rw [World.size_alloc] at hb1
    have HB1 := Lib.hid hb1
    clear hb1
    go_wp2_with fail
    go_meet
    exact ⟨rfl, HB1.out, HB0.out, ((Below.refl _ _).alloc (Nat.le_refl _) _).alloc (by simp) _⟩
  case rest =>
  obtain ⟨rfl, hst⟩ := hcut
  obtain ⟨w1, rfl⟩ : ∃ wq : World, wq = wc := ⟨_, rfl⟩
  have HST := Lib.hid hst
  have HA1 := Lib.hid (HA.out.below HST.out.below (Nat.le_refl _))
  have h1 := (HST.out.below.cell (p := ⟨b, off, none⟩) hbb).trans h0
  have r0 : w1.cell? ⟨w.heap.size + 1, 0, none⟩ = some (.int .i64 3) := HST.out.rcd.cell 0
  have rl := HST.out.rcd.lt
  clear h0 hst
  by_cases hs1 : n < 17
  · have hR := HR.out
    rw [HS.out.1 hs1] at hR
    injection hR with hf3 hf4
    subst hf3 hf4
    have hsi : (n : Int) < 17 := by omega
    have q0 : w1.cell? ⟨w.heap.size, 0, none⟩ = some (.int .i64 0) := HST.out.res.cell 0
    have q1 : w1.cell? ⟨w.heap.size, 1, none⟩ = some (.int .i64 0) := HST.out.res.cell 1
    have q2 : w1.cell? ⟨w.heap.size, 2, none⟩ = some (.string noG) := HST.out.res.cell 2
    have q3 : w1.cell? ⟨w.heap.size, 3, none⟩ = some (.int .i64 0) := HST.out.res.cell 3
    have q4 : w1.cell? ⟨w.heap.size, 4, none⟩ = some (.int .i64 0) := HST.out.res.cell 4
    have p0 := HST.out.res.frozen 0
    have p1 := HST.out.res.frozen 1
    have p2 := HST.out.res.frozen 2
    have p3 := HST.out.res.frozen 3
    have p4 := HST.out.res.frozen 4
    have ql := HST.out.res.lt
    have HB := Lib.hid HST.out.below
    clear HR HS
    go_wp2_with fail
    refine (len_3 b off n cap _ h1 hn).mono ?_
    rintro e wq ⟨rfl, rfl⟩
    go_wp2_with (first | (go_at_call 23; (with_reducible refine (tagged_3 _).mono ?_); rintro e w' ⟨rfl, rfl⟩) | (go_at_call 24; (with_reducible refine (named_3 _).mono ?_); rintro e w' ⟨rfl, rfl⟩) | (go_at_call 25; (with_reducible refine (valued_3 _).mono ?_); rintro e w' ⟨rfl, rfl⟩) | fail)
    refine bodyPost_ret (v := .tuple #[.agg zeroR.cells, .int .i64 1]) ?_ rfl ⟨rfl, by have := HB.out; (repeat (first | (with_reducible assumption) | (with_reducible exact Below.refl _ _) | ((with_reducible refine Below.setCell ?_ ?_ _); rotate_left; · (first | omega | (simp; done) | (simp; omega) | (simp at *; omega))) | ((with_reducible refine Below.alloc ?_ ?_ _); rotate_left; · (first | omega | (simp; done) | (simp; omega) | (simp at *; omega))) | (with_reducible refine Below.drew ?_) | (with_reducible refine below_drewN ?_ _) | ((refine Below.trans ?_ (Below.mono (by with_reducible assumption) ?_)); rotate_left; · (first | omega | (simp; done) | (simp; omega) | (simp at *; omega)))))⟩
    simp [results, Try.results16, go_sem, q0, q1, q2, q3, q4]
    rfl
  by_cases hs2 : 17 < n
  · have hR := HR.out
    rw [HS.out.2.1 hs2] at hR
    injection hR with hf3 hf4
    subst hf3 hf4
    have hsi : ¬ (n : Int) < 17 := by omega
    have hsj : 17 < (n : Int) := by omega
    have q0 : w1.cell? ⟨w.heap.size, 0, none⟩ = some (.int .i64 0) := HST.out.res.cell 0
    have q1 : w1.cell? ⟨w.heap.size, 1, none⟩ = some (.int .i64 0) := HST.out.res.cell 1
    have q2 : w1.cell? ⟨w.heap.size, 2, none⟩ = some (.string noG) := HST.out.res.cell 2
    have q3 : w1.cell? ⟨w.heap.size, 3, none⟩ = some (.int .i64 0) := HST.out.res.cell 3
    have q4 : w1.cell? ⟨w.heap.size, 4, none⟩ = some (.int .i64 0) := HST.out.res.cell 4
    have p0 := HST.out.res.frozen 0
    have p1 := HST.out.res.frozen 1
    have p2 := HST.out.res.frozen 2
    have p3 := HST.out.res.frozen 3
    have p4 := HST.out.res.frozen 4
    have ql := HST.out.res.lt
    have HB := Lib.hid HST.out.below
    clear HR HS
    go_wp2_with fail
    refine (len_3 b off n cap _ h1 hn).mono ?_
    rintro e wq ⟨rfl, rfl⟩
    go_wp2_with (first | (go_at_call 23; (with_reducible refine (tagged_3 _).mono ?_); rintro e w' ⟨rfl, rfl⟩) | (go_at_call 24; (with_reducible refine (named_3 _).mono ?_); rintro e w' ⟨rfl, rfl⟩) | (go_at_call 25; (with_reducible refine (valued_3 _).mono ?_); rintro e w' ⟨rfl, rfl⟩) | fail)
    refine bodyPost_ret (v := .tuple #[.agg zeroR.cells, .int .i64 2]) ?_ rfl ⟨rfl, by have := HB.out; (repeat (first | (with_reducible assumption) | (with_reducible exact Below.refl _ _) | ((with_reducible refine Below.setCell ?_ ?_ _); rotate_left; · (first | omega | (simp; done) | (simp; omega) | (simp at *; omega))) | ((with_reducible refine Below.alloc ?_ ?_ _); rotate_left; · (first | omega | (simp; done) | (simp; omega) | (simp at *; omega))) | (with_reducible refine Below.drew ?_) | (with_reducible refine below_drewN ?_ _) | ((refine Below.trans ?_ (Below.mono (by with_reducible assumption) ?_)); rotate_left; · (first | omega | (simp; done) | (simp; omega) | (simp at *; omega)))))⟩
    simp [results, Try.results16, go_sem, q0, q1, q2, q3, q4]
    rfl
  have hfit : n = 17 := by omega
  have hR := HR.out
  rw [HS.out.2.2 hfit] at hR
  have hsi : ¬ (n : Int) < 17 := by omega
  have hsj : ¬ 17 < (n : Int) := by omega
  obtain ⟨vt, hvt⟩ : ∃ x, x = val8 (L.drop 1) := ⟨_, rfl⟩
  have HVT := Lib.hid hvt.symm
  rw [← hvt] at hR
  obtain ⟨vv, hvv⟩ : ∃ x, x = val8 (L.drop (9)) := ⟨_, rfl⟩
  have HVV := Lib.hid hvv.symm
  rw [← hvv] at hR
  have HF := Lib.hid hR
  have hfa : n ≤ 17 := by omega
  have hfb : 17 ≤ n := by omega
  have HFT := Lib.hid hfit
  clear hfit
  clear hR HR HS hvt hs1 hs2 hvv
  go_wp2_with fail
  refine (len_3 b off n cap _ h1 hn).mono ?_
  rintro e wq ⟨rfl, rfl⟩
  go_wp2_with fail
  refine (at_to b off n cap 1 1 vt L _ rfl HVT.out HN.out HA1.out HL.out (by omega) hn2).mono ?_
  rintro e wq ⟨rfl, rfl⟩
  have c1 : w1.cell? ⟨w.heap.size + 1, 1, none⟩ = some (.int .i64 0) := HST.out.rcd.cell 1
  have f1 := HST.out.rcd.frozen 1
  have HS2 := Lib.hid (HST.out.put 1 (.int .i64 vt) ⟨3, vt, noG, 0, 0⟩ rfl)
  obtain ⟨w2, hw2⟩ : ∃ wq : World, wq = w1.setCell ⟨w.heap.size + 1, 1, none⟩ (.int .i64 vt) := ⟨_, rfl⟩
  go_upto_region 12 with fail
  rw [← hw2] at HS2 ⊢
  clear hw2 c1 f1 r0 rl h1
  have r0 : w2.cell? ⟨w.heap.size + 1, 0, none⟩ = some (.int .i64 3) := HS2.out.rcd.cell 0
  have rl := HS2.out.rcd.lt
  have HAw2 := Lib.hid (HA.out.below HS2.out.below (Nat.le_refl _))
  go_wp2_with (first | (go_at_call 23; (with_reducible refine (tagged_3 _).mono ?_); rintro e w' ⟨rfl, rfl⟩) | (go_at_call 24; (with_reducible refine (named_3 _).mono ?_); rintro e w' ⟨rfl, rfl⟩) | (go_at_call 25; (with_reducible refine (valued_3 _).mono ?_); rintro e w' ⟨rfl, rfl⟩) | fail)
  refine (at_to b off n cap (9) 9 vv L _ rfl HVV.out HN.out HAw2.out HL.out (by omega) hn2).mono ?_
  rintro e wq ⟨rfl, rfl⟩
  have c1 : w2.cell? ⟨w.heap.size + 1, 3, none⟩ = some (.int .i64 0) := HS2.out.rcd.cell 3
  have f1 := HS2.out.rcd.frozen 3
  have HS3 := Lib.hid (HS2.out.put 3 (.int .i64 vv) ⟨3, vt, noG, vv, 0⟩ rfl)
  obtain ⟨w3, hww3⟩ : ∃ wq : World, wq = w2.setCell ⟨w.heap.size + 1, 3, none⟩ (.int .i64 vv) := ⟨_, rfl⟩
  go_upto_region 21 with (first | (go_at_call 23; (with_reducible refine (tagged_3 _).mono ?_); rintro e w' ⟨rfl, rfl⟩) | (go_at_call 24; (with_reducible refine (named_3 _).mono ?_); rintro e w' ⟨rfl, rfl⟩) | (go_at_call 25; (with_reducible refine (valued_3 _).mono ?_); rintro e w' ⟨rfl, rfl⟩) | fail)
  rw [← hww3] at HS3 ⊢
  clear hww3 c1 f1 r0 rl
  have r0 : w3.cell? ⟨w.heap.size + 1, 0, none⟩ = some (.int .i64 3) := HS3.out.rcd.cell 0
  have rl := HS3.out.rcd.lt
  have HAw3 := Lib.hid (HA.out.below HS3.out.below (Nat.le_refl _))
  have r1 : w3.cell? ⟨w.heap.size + 1, 1, none⟩ = some (.int .i64 vt) := HS3.out.rcd.cell 1
  have r2 : w3.cell? ⟨w.heap.size + 1, 2, none⟩ = some (.string noG) := HS3.out.rcd.cell 2
  have r3 : w3.cell? ⟨w.heap.size + 1, 3, none⟩ = some (.int .i64 vv) := HS3.out.rcd.cell 3
  have r4 : w3.cell? ⟨w.heap.size + 1, 4, none⟩ = some (.int .i64 0) := HS3.out.rcd.cell 4
  obtain ⟨x, hx⟩ : ∃ x, x = recErr ⟨3, vt, noG, vv, 0⟩ := ⟨_, rfl⟩
  have HX := Lib.hid hx
  have hf2 := HF.out
  unfold okR at hf2
  rw [← hx] at hf2
  have HF2 := Lib.hid hf2
  clear hf2 hx HF
  go_wp2_with (first | (go_at_call 23; (with_reducible refine (tagged_3 _).mono ?_); rintro e w' ⟨rfl, rfl⟩) | (go_at_call 24; (with_reducible refine (named_3 _).mono ?_); rintro e w' ⟨rfl, rfl⟩) | (go_at_call 25; (with_reducible refine (valued_3 _).mono ?_); rintro e w' ⟨rfl, rfl⟩) | fail)
  refine (rcheck_is 3 vt noG vv 0 x _ noG_size HX.out.symm).mono ?_
  rintro e w9 ⟨rfl, hb9⟩
  have HRS := Lib.hid (HS3.out.res.below hb9 HS3.out.res.lt)
  have HRC := Lib.hid (HS3.out.rcd.below hb9 HS3.out.rcd.lt)
  have HB := Lib.hid (HS3.out.below.trans (hb9.mono HS3.out.below.size))
  clear hb9 r0 r1 r2 r3 r4 rl
  have q0 : w9.cell? ⟨w.heap.size, 0, none⟩ = some (.int .i64 0) := HRS.out.cell 0
  have q1 : w9.cell? ⟨w.heap.size, 1, none⟩ = some (.int .i64 0) := HRS.out.cell 1
  have q2 : w9.cell? ⟨w.heap.size, 2, none⟩ = some (.string noG) := HRS.out.cell 2
  have q3 : w9.cell? ⟨w.heap.size, 3, none⟩ = some (.int .i64 0) := HRS.out.cell 3
  have q4 : w9.cell? ⟨w.heap.size, 4, none⟩ = some (.int .i64 0) := HRS.out.cell 4
  have p0 := HRS.out.frozen 0
  have p1 := HRS.out.frozen 1
  have p2 := HRS.out.frozen 2
  have p3 := HRS.out.frozen 3
  have p4 := HRS.out.frozen 4
  have ql := HRS.out.lt
  by_cases hx0 : x = 0
  · subst hx0
    have hf2 := HF2.out
    rw [if_pos rfl] at hf2
    injection hf2 with hf3 hf4
    subst hf3 hf4
    have r0 : w9.cell? ⟨w.heap.size + 1, 0, none⟩ = some (.int .i64 3) := HRC.out.cell 0
    have r1 : w9.cell? ⟨w.heap.size + 1, 1, none⟩ = some (.int .i64 vt) := HRC.out.cell 1
    have r2 : w9.cell? ⟨w.heap.size + 1, 2, none⟩ = some (.string noG) := HRC.out.cell 2
    have r3 : w9.cell? ⟨w.heap.size + 1, 3, none⟩ = some (.int .i64 vv) := HRC.out.cell 3
    have r4 : w9.cell? ⟨w.heap.size + 1, 4, none⟩ = some (.int .i64 0) := HRC.out.cell 4
    have rl := HRC.out.lt
    clear HF2
    go_wp2_with fail
    refine bodyPost_ret (v := .tuple #[.agg (Rec.mk 3 vt noG vv 0).cells, .int .i64 0]) ?_ rfl ⟨rfl, by have := HB.out; (repeat (first | (with_reducible assumption) | (with_reducible exact Below.refl _ _) | ((with_reducible refine Below.setCell ?_ ?_ _); rotate_left; · (first | omega | (simp; done) | (simp; omega) | (simp at *; omega))) | ((with_reducible refine Below.alloc ?_ ?_ _); rotate_left; · (first | omega | (simp; done) | (simp; omega) | (simp at *; omega))) | (with_reducible refine Below.drew ?_) | (with_reducible refine below_drewN ?_ _) | ((refine Below.trans ?_ (Below.mono (by with_reducible assumption) ?_)); rotate_left; · (first | omega | (simp; done) | (simp; omega) | (simp at *; omega)))))⟩
    simp [results, Try.results16, go_sem, q0, q1, q2, q3, q4]
    rfl
  · have hx1 : (x != 0) = true := by simp [hx0]
    have hf2 := HF2.out
    rw [if_neg hx0] at hf2
    injection hf2 with hf3 hf4
    subst hf3 hf4
    clear HF2 hx0
    go_wp2_with (first | (go_at_call 23; (with_reducible refine (tagged_3 _).mono ?_); rintro e w' ⟨rfl, rfl⟩) | (go_at_call 24; (with_reducible refine (named_3 _).mono ?_); rintro e w' ⟨rfl, rfl⟩) | (go_at_call 25; (with_reducible refine (valued_3 _).mono ?_); rintro e w' ⟨rfl, rfl⟩) | fail)
    refine bodyPost_ret (v := .tuple #[.agg zeroR.cells, .int .i64 x]) ?_ rfl ⟨rfl, by have := HB.out; (repeat (first | (with_reducible assumption) | (with_reducible exact Below.refl _ _) | ((with_reducible refine Below.setCell ?_ ?_ _); rotate_left; · (first | omega | (simp; done) | (simp; omega) | (simp at *; omega))) | ((with_reducible refine Below.alloc ?_ ?_ _); rotate_left; · (first | omega | (simp; done) | (simp; omega) | (simp at *; omega))) | (with_reducible refine Below.drew ?_) | (with_reducible refine below_drewN ?_ _) | ((refine Below.trans ?_ (Below.mono (by with_reducible assumption) ?_)); rotate_left; · (first | omega | (simp; done) | (simp; omega) | (simp at *; omega)))))⟩
    simp [results, Try.results16, go_sem, q0, q1, q2, q3, q4]
    rfl
set_option maxHeartbeats 400000 in
theorem len_4 (b off n cap : Nat) (w : World) (h0 : w.cell? ⟨b, off, none⟩ = some (.int .u8 4)) (hn : 1 ≤ n) :
    Calls Try.prog 31 #[.slice (some ⟨b, off, none⟩) n cap] w fun e w' => e = .returned (.int .i64 17) ∧ w = w' := by
  have n1 : (0 : Int) < (n : Int) := by omega
  have n2 : 0 < n := by omega
  go_enter Try.func31, Try.ntmps31
  go_wp2_with (first | (go_at_call 23; (with_reducible refine (tagged_4 _).mono ?_); rintro e w' ⟨rfl, rfl⟩) | (go_at_call 24; (with_reducible refine (named_4 _).mono ?_); rintro e w' ⟨rfl, rfl⟩) | (go_at_call 25; (with_reducible refine (valued_4 _).mono ?_); rintro e w' ⟨rfl, rfl⟩) | fail)
  go_ret
  exact ⟨rfl, rfl⟩
set_option maxRecDepth 100000 in
set_option maxHeartbeats 1000000 in
theorem rget_4 (b off n cap : Nat) (L : List Int) (Rr : Rec) (E : Int) (w : World) (hln : L.length = n) (hA : IntsAt .u8 w (some ⟨b, off, none⟩) L) (hL : ∀ x ∈ L, U8 x) (hn : 1 ≤ n) (hn2 : n ≤ 140737488351232) (hk : L.getD 0 0 = 4) (hR : getS L = (Rr, E)) :
    Calls Try.prog 16 #[.slice (some ⟨b, off, none⟩) n cap] w (GetBack Rr E w) := by
  have hA2 := hA
  obtain ⟨b', off', e', hbb, hcell⟩ := hA (by omega)
  cases e'
  have h0 := hcell 0 (by omega)
  rw [Nat.add_zero, hk] at h0
  have HL := Lib.hid hL
  have HN := Lib.hid hln
  have HC := Lib.hid hcell
  have HA := Lib.hid hA2
  have hkw : Within (4 : Int) 1 6 := ⟨by decide, by decide⟩
  have HS := Lib.hid (getS_one (L := L) (fun t v => ⟨4, t, noG, v, 0⟩) (fun t M s h => by rw [getS_of (by rw [hln]; exact hn) hk.symm hkw h, if_neg (by omega), if_neg (by omega), if_neg (by omega)]))
  have HR := Lib.hid hR
  rw [hln] at HS
  have nz : ((n : Int) == 0) = false := by rw [beq_eq_false_iff_ne]; omega
  have k0 : 0 < n := by omega
  have n1 : (0 : Int) < (n : Int) := by omega
  clear hA hA2 hcell hL hln hR hk hkw
  go_enter Try.func16, Try.ntmps16
  go_upto_region 3 with fail
  go_cut [4] (fun s4 wx => s4 = .pointer (some ⟨w.heap.size + 1, 0, none⟩) ∧ RSt w wx w.heap.size ⟨4, 0, noG, 0, 0⟩)
  case first =>
    have HB0 := Lib.hid ((Blk.new w 23 #[.int .i64 0, .int .i64 0, .string { data := #[] }, .int .i64 0, .int .i64 0]).alloc (.cells #[.int .i64 4, .int .i64 0, .string { data := #[] }, .int .i64 0, .int .i64 0] 23))
    have hb1 := Blk.new (w.alloc (.cells #[.int .i64 0, .int .i64 0, .string { data := #[] }, .int .i64 0, .int .i64 0] 23)) 23 #[.int .i64 4, .int .i64 0, .string { data := #[] }, .int .i64 0, .int .i64 0]
    rw [World.size_alloc] at hb1
    have HB1 := Lib.hid hb1
    clear hb1
    go_wp2_with fail
    go_meet
    exact ⟨rfl, HB1.out, HB0.out, ((Below.refl _ _).alloc (Nat.le_refl _) _).alloc (by simp) _⟩
  case rest =>
  obtain ⟨rfl, hst⟩ := hcut
  obtain ⟨w1, rfl⟩ : ∃ wq : World, wq = wc := ⟨_, rfl⟩
  have HST := Lib.hid hst
  have HA1 := Lib.hid (HA.out.below HST.out.below (Nat.le_refl _))
  have h1 := (HST.out.below.cell (p := ⟨b, off, none⟩) hbb).trans h0
  have r0 : w1.cell? ⟨w.heap.size + 1, 0, none⟩ = some (.int .i64 4) := HST.out.rcd.cell 0
  have rl := HST.out.rcd.lt
  clear h0 hst
  by_cases hs1 : n < 17
  · have hR := HR.out
    rw [HS.out.1 hs1] at hR
    injection hR with hf3 hf4
    subst hf3 hf4
    have hsi : (n : Int) < 17 := by omega
    have q0 : w1.cell? ⟨w.heap.size, 0, none⟩ = some (.int .i64 0) := HST.out.res.cell 0
    have q1 : w1.cell? ⟨w.heap.size, 1, none⟩ = some (.int .i64 0) := HST.out.res.cell 1
    have q2 : w1.cell? ⟨w.heap.size, 2, none⟩ = some (.string noG) := HST.out.res.cell 2
    have q3 : w1.cell? ⟨w.heap.size, 3, none⟩ = some (.int .i64 0) := HST.out.res.cell 3
    have q4 : w1.cell? ⟨w.heap.size, 4, none⟩ = some (.int .i64 0) := HST.out.res.cell 4
    have p0 := HST.out.res.frozen 0
    have p1 := HST.out.res.frozen 1
    have p2 := HST.out.res.frozen 2
    have p3 := HST.out.res.frozen 3
    have p4 := HST.out.res.frozen 4
    have ql := HST.out.res.lt
    have HB := Lib.hid HST.out.below
    clear HR HS
    go_wp2_with fail
    refine (len_4 b off n cap _ h1 hn).mono ?_
    rintro e wq ⟨rfl, rfl⟩
    go_wp2_with (first | (go_at_call 23; (with_reducible refine (tagged_4 _).mono ?_); rintro e w' ⟨rfl, rfl⟩) | (go_at_call 24; (with_reducible refine (named_4 _).mono ?_); rintro e w' ⟨rfl, rfl⟩) | (go_at_call 25; (with_reducible refine (valued_4 _).mono ?_); rintro e w' ⟨rfl, rfl⟩) | fail)
    refine bodyPost_ret (v := .tuple #[.agg zeroR.cells, .int .i64 1]) ?_ rfl ⟨rfl, by have := HB.out; (repeat (first | (with_reducible assumption) | (with_reducible exact Below.refl _ _) | ((with_reducible refine Below.setCell ?_ ?_ _); rotate_left; · (first | omega | (simp; done) | (simp; omega) | (simp at *; omega))) | ((with_reducible refine Below.alloc ?_ ?_ _); rotate_left; · (first | omega | (simp; done) | (simp; omega) | (simp at *; omega))) | (with_reducible refine Below.drew ?_) | (with_reducible refine below_drewN ?_ _) | ((refine Below.trans ?_ (Below.mono (by with_reducible assumption) ?_)); rotate_left; · (first | omega | (simp; done) | (simp; omega) | (simp at *; omega)))))⟩
    simp [results, Try.results16, go_sem, q0, q1, q2, q3, q4]
    rfl
  by_cases hs2 : 17 < n
  · have hR := HR.out
    rw [HS.out.2.1 hs2] at hR
    injection hR with hf3 hf4
    subst hf3 hf4
    have hsi : ¬ (n : Int) < 17 := by omega
    have hsj : 17 < (n : Int) := by omega
    have q0 : w1.cell? ⟨w.heap.size, 0, none⟩ = some (.int .i64 0) := HST.out.res.cell 0
    have q1 : w1.cell? ⟨w.heap.size, 1, none⟩ = some (.int .i64 0) := HST.out.res.cell 1
    have q2 : w1.cell? ⟨w.heap.size, 2, none⟩ = some (.string noG) := HST.out.res.cell 2
    have q3 : w1.cell? ⟨w.heap.size, 3, none⟩ = some (.int .i64 0) := HST.out.res.cell 3
    have q4 : w1.cell? ⟨w.heap.size, 4, none⟩ = some (.int .i64 0) := HST.out.res.cell 4
    have p0 := HST.out.res.frozen 0
    have p1 := HST.out.res.frozen 1
    have p2 := HST.out.res.frozen 2
    have p3 := HST.out.res.frozen 3
    have p4 := HST.out.res.frozen 4
    have ql := HST.out.res.lt
    have HB := Lib.hid HST.out.below
    clear HR HS
    go_wp2_with fail
    refine (len_4 b off n cap _ h1 hn).mono ?_
    rintro e wq ⟨rfl, rfl⟩
    go_wp2_with (first | (go_at_call 23; (with_reducible refine (tagged_4 _).mono ?_); rintro e w' ⟨rfl, rfl⟩) | (go_at_call 24; (with_reducible refine (named_4 _).mono ?_); rintro e w' ⟨rfl, rfl⟩) | (go_at_call 25; (with_reducible refine (valued_4 _).mono ?_); rintro e w' ⟨rfl, rfl⟩) | fail)
    refine bodyPost_ret (v := .tuple #[.agg zeroR.cells, .int .i64 2]) ?_ rfl ⟨rfl, by have := HB.out; (repeat (first | (with_reducible assumption) | (with_reducible exact Below.refl _ _) | ((with_reducible refine Below.setCell ?_ ?_ _); rotate_left; · (first | omega | (simp; done) | (simp; omega) | (simp at *; omega))) | ((with_reducible refine Below.alloc ?_ ?_ _); rotate_left; · (first | omega | (simp; done) | (simp; omega) | (simp at *; omega))) | (with_reducible refine Below.drew ?_) | (with_reducible refine below_drewN ?_ _) | ((refine Below.trans ?_ (Below.mono (by with_reducible assumption) ?_)); rotate_left; · (first | omega | (simp; done) | (simp; omega) | (simp at *; omega)))))⟩
    simp [results, Try.results16, go_sem, q0, q1, q2, q3, q4]
    rfl
  have hfit : n = 17 := by omega
  have hR := HR.out
  rw [HS.out.2.2 hfit] at hR
  have hsi : ¬ (n : Int) < 17 := by omega
  have hsj : ¬ 17 < (n : Int) := by omega
  obtain ⟨vt, hvt⟩ : ∃ x, x = val8 (L.drop 1) := ⟨_, rfl⟩
  have HVT := Lib.hid hvt.symm
  rw [← hvt] at hR
  obtain ⟨vv, hvv⟩ : ∃ x, x = val8 (L.drop (9)) := ⟨_, rfl⟩
  have HVV := Lib.hid hvv.symm
  rw [← hvv] at hR
  have HF := Lib.hid hR
  have hfa : n ≤ 17 := by omega
  have hfb : 17 ≤ n := by omega
  have HFT := Lib.hid hfit
  clear hfit
  clear hR HR HS hvt hs1 hs2 hvv
  go_wp2_with fail
  refine (len_4 b off n cap _ h1 hn).mono ?_
  rintro e wq ⟨rfl, rfl⟩
  go_wp2_with fail
  refine (at_to b off n cap 1 1 vt L _ rfl HVT.out HN.out HA1.out HL.out (by omega) hn2).mono ?_
  rintro e wq ⟨rfl, rfl⟩
  have c1 : w1.cell? ⟨w.heap.size + 1, 1, none⟩ = some (.int .i64 0) := HST.out.rcd.cell 1
  have f1 := HST.out.rcd.frozen 1
  have HS2 := Lib.hid (HST.out.put 1 (.int .i64 vt) ⟨4, vt, noG, 0, 0⟩ rfl)
  obtain ⟨w2, hw2⟩ : ∃ wq : World, wq = w1.setCell ⟨w.heap.size + 1, 1, none⟩ (.int .i64 vt) := ⟨_, rfl⟩
  go_upto_region 12 with fail
  rw [← hw2] at HS2 ⊢
  clear hw2 c1 f1 r0 rl h1
  have r0 : w2.cell? ⟨w.heap.size + 1, 0, none⟩ = some (.int .i64 4) := HS2.out.rcd.cell 0
  have rl := HS2.out.rcd.lt
  have HAw2 := Lib.hid (HA.out.below HS2.out.below (Nat.le_refl _))
  go_wp2_with (first | (go_at_call 23; (with_reducible refine (tagged_4 _).mono ?_); rintro e w' ⟨rfl, rfl⟩) | (go_at_call 24; (with_reducible refine (named_4 _).mono ?_); rintro e w' ⟨rfl, rfl⟩) | (go_at_call 25; (with_reducible refine (valued_4 _).mono ?_); rintro e w' ⟨rfl, rfl⟩) | fail)
  refine (at_to b off n cap (9) 9 vv L _ rfl HVV.out HN.out HAw2.out HL.out (by omega) hn2).mono ?_
  rintro e wq ⟨rfl, rfl⟩
  have c1 : w2.cell? ⟨w.heap.size + 1, 3, none⟩ = some (.int .i64 0) := HS2.out.rcd.cell 3
  have f1 := HS2.out.rcd.frozen 3
  have HS3 := Lib.hid (HS2.out.put 3 (.int .i64 vv) ⟨4, vt, noG, vv, 0⟩ rfl)
  obtain ⟨w3, hww3⟩ : ∃ wq : World, wq = w2.setCell ⟨w.heap.size + 1, 3, none⟩ (.int .i64 vv) := ⟨_, rfl⟩
  go_upto_region 21 with (first | (go_at_call 23; (with_reducible refine (tagged_4 _).mono ?_); rintro e w' ⟨rfl, rfl⟩) | (go_at_call 24; (with_reducible refine (named_4 _).mono ?_); rintro e w' ⟨rfl, rfl⟩) | (go_at_call 25; (with_reducible refine (valued_4 _).mono ?_); rintro e w' ⟨rfl, rfl⟩) | fail)
  rw [← hww3] at HS3 ⊢
  clear hww3 c1 f1 r0 rl
  have r0 : w3.cell? ⟨w.heap.size + 1, 0, none⟩ = some (.int .i64 4) := HS3.out.rcd.cell 0
  have rl := HS3.out.rcd.lt
  have HAw3 := Lib.hid (HA.out.below HS3.out.below (Nat.le_refl _))
  have r1 : w3.cell? ⟨w.heap.size + 1, 1, none⟩ = some (.int .i64 vt) := HS3.out.rcd.cell 1
  have r2 : w3.cell? ⟨w.heap.size + 1, 2, none⟩ = some (.string noG) := HS3.out.rcd.cell 2
  have r3 : w3.cell? ⟨w.heap.size + 1, 3, none⟩ = some (.int .i64 vv) := HS3.out.rcd.cell 3
  have r4 : w3.cell? ⟨w.heap.size + 1, 4, none⟩ = some (.int .i64 0) := HS3.out.rcd.cell 4
  obtain ⟨x, hx⟩ : ∃ x, x = recErr ⟨4, vt, noG, vv, 0⟩ := ⟨_, rfl⟩
  have HX := Lib.hid hx
  have hf2 := HF.out
  unfold okR at hf2
  rw [← hx] at hf2
  have HF2 := Lib.hid hf2
  clear hf2 hx HF
  go_wp2_with (first | (go_at_call 23; (with_reducible refine (tagged_4 _).mono ?_); rintro e w' ⟨rfl, rfl⟩) | (go_at_call 24; (with_reducible refine (named_4 _).mono ?_); rintro e w' ⟨rfl, rfl⟩) | (go_at_call 25; (with_reducible refine (valued_4 _).mono ?_); rintro e w' ⟨rfl, rfl⟩) | fail)
  refine (rcheck_is 4 vt noG vv 0 x _ noG_size HX.out.symm).mono ?_
  rintro e w9 ⟨rfl, hb9⟩
  have HRS := Lib.hid (HS3.out.res.below hb9 HS3.out.res.lt)
  have HRC := Lib.hid (HS3.out.rcd.below hb9 HS3.out.rcd.lt)
  have HB := Lib.hid (HS3.out.below.trans (hb9.mono HS3.out.below.size))
  clear hb9 r0 r1 r2 r3 r4 rl
  have q0 : w9.cell? ⟨w.heap.size, 0, none⟩ = some (.int .i64 0) := HRS.out.cell 0
  have q1 : w9.cell? ⟨w.heap.size, 1, none⟩ = some (.int .i64 0) := HRS.out.cell 1
  have q2 : w9.cell? ⟨w.heap.size, 2, none⟩ = some (.string noG) := HRS.out.cell 2
  have q3 : w9.cell? ⟨w.heap.size, 3, none⟩ = some (.int .i64 0) := HRS.out.cell 3
  have q4 : w9.cell? ⟨w.heap.size, 4, none⟩ = some (.int .i64 0) := HRS.out.cell 4
  have p0 := HRS.out.frozen 0
  have p1 := HRS.out.frozen 1
  have p2 := HRS.out.frozen 2
  have p3 := HRS.out.frozen 3
  have p4 := HRS.out.frozen 4
  have ql := HRS.out.lt
  by_cases hx0 : x = 0
  · subst hx0
    have hf2 := HF2.out
    rw [if_pos rfl] at hf2
    injection hf2 with hf3 hf4
    subst hf3 hf4
    have r0 : w9.cell? ⟨w.heap.size + 1, 0, none⟩ = some (.int .i64 4) := HRC.out.cell 0
    have r1 : w9.cell? ⟨w.heap.size + 1, 1, none⟩ = some (.int .i64 vt) := HRC.out.cell 1
    have r2 : w9.cell? ⟨w.heap.size + 1, 2, none⟩ = some (.string noG) := HRC.out.cell 2
    have r3 : w9.cell? ⟨w.heap.size + 1, 3, none⟩ = some (.int .i64 vv) := HRC.out.cell 3
    have r4 : w9.cell? ⟨w.heap.size + 1, 4, none⟩ = some (.int .i64 0) := HRC.out.cell 4
    have rl := HRC.out.lt
    clear HF2
    go_wp2_with fail
    refine bodyPost_ret (v := .tuple #[.agg (Rec.mk 4 vt noG vv 0).cells, .int .i64 0]) ?_ rfl ⟨rfl, by have := HB.out; (repeat (first | (with_reducible assumption) | (with_reducible exact Below.refl _ _) | ((with_reducible refine Below.setCell ?_ ?_ _); rotate_left; · (first | omega | (simp; done) | (simp; omega) | (simp at *; omega))) | ((with_reducible refine Below.alloc ?_ ?_ _); rotate_left; · (first | omega | (simp; done) | (simp; omega) | (simp at *; omega))) | (with_reducible refine Below.drew ?_) | (with_reducible refine below_drewN ?_ _) | ((refine Below.trans ?_ (Below.mono (by with_reducible assumption) ?_)); rotate_left; · (first | omega | (simp; done) | (simp; omega) | (simp at *; omega)))))⟩
    simp [results, Try.results16, go_sem, q0, q1, q2, q3, q4]
    rfl
  · have hx1 : (x != 0) = true := by simp [hx0]
    have hf2 := HF2.out
    rw [if_neg hx0] at hf2
    injection hf2 with hf3 hf4
    subst hf3 hf4
    clear HF2 hx0
    go_wp2_with (first | (go_at_call 23; (with_reducible refine (tagged_4 _).mono ?_); rintro e w' ⟨rfl, rfl⟩) | (go_at_call 24; (with_reducible refine (named_4 _).mono ?_); rintro e w' ⟨rfl, rfl⟩) | (go_at_call 25; (with_reducible refine (valued_4 _).mono ?_); rintro e w' ⟨rfl, rfl⟩) | fail)
    refine bodyPost_ret (v := .tuple #[.agg zeroR.cells, .int .i64 x]) ?_ rfl ⟨rfl, by have := HB.out; (repeat (first | (with_reducible assumption) | (with_reducible exact Below.refl _ _) | ((with_reducible refine Below.setCell ?_ ?_ _); rotate_left; · (first | omega | (simp; done) | (simp; omega) | (simp at *; omega))) | ((with_reducible refine Below.alloc ?_ ?_ _); rotate_left; · (first | omega | (simp; done) | (simp; omega) | (simp at *; omega))) | (with_reducible refine Below.drew ?_) | (with_reducible refine below_drewN ?_ _) | ((refine Below.trans ?_ (Below.mono (by with_reducible assumption) ?_)); rotate_left; · (first | omega | (simp; done) | (simp; omega) | (simp at *; omega)))))⟩
    simp [results, Try.results16, go_sem, q0, q1, q2, q3, q4]
    rfl
set_option maxHeartbeats 400000 in
theorem len_5 (b off n cap : Nat) (w : World) (h0 : w.cell? ⟨b, off, none⟩ = some (.int .u8 5)) (hn : 1 ≤ n) :
    Calls Try.prog 31 #[.slice (some ⟨b, off, none⟩) n cap] w fun e w' => e = .returned (.int .i64 17) ∧ w = w' := by
  have n1 : (0 : Int) < (n : Int) := by omega
  have n2 : 0 < n := by omega
  go_enter Try.func31, Try.ntmps31
  go_wp2_with (first | (go_at_call 23; (with_reducible refine (tagged_5 _).mono ?_); rintro e w' ⟨rfl, rfl⟩) | (go_at_call 24; (with_reducible refine (named_5 _).mono ?_); rintro e w' ⟨rfl, rfl⟩) | (go_at_call 25; (with_reducible refine (valued_5 _).mono ?_); rintro e w' ⟨rfl, rfl⟩) | fail)
  go_ret
  exact ⟨rfl, rfl⟩
set_option maxRecDepth 100000 in
set_option maxHeartbeats 1000000 in
theorem rget_5 (b off n cap : Nat) (L : List Int) (Rr : Rec) (E : Int) (w : World) (hln : L.length = n) (hA : IntsAt .u8 w (some ⟨b, off, none⟩) L) (hL : ∀ x ∈ L, U8 x) (hn : 1 ≤ n) (hn2 : n ≤ 140737488351232) (hk : L.getD 0 0 = 5) (hR : getS L = (Rr, E)) :
    Calls Try.prog 16 #[.slice (some ⟨b, off, none⟩) n cap] w (GetBack Rr E w) := by
  have hA2 := hA
  obtain ⟨b', off', e', hbb, hcell⟩ := hA (by omega)
  cases e'
  have h0 := hcell 0 (by omega)
  rw [Nat.add_zero, hk] at h0
  have HL := Lib.hid hL
  have HN := Lib.hid hln
  have HC := Lib.hid hcell
  have HA := Lib.hid hA2
  have hkw : Within (5 : Int) 1 6 := ⟨by decide, by decide⟩
  have HS := Lib.hid (getS_one (L := L) (fun t i => ⟨5, t, noG, 0, i⟩) (fun t M s h => by rw [getS_of (by rw [hln]; exact hn) hk.symm hkw h, if_neg (by omega), if_pos rfl]))
  have HR := Lib.hid hR
  rw [hln] at HS
  have nz : ((n : Int) == 0) = false := by rw [beq_eq_false_iff_ne]; omega
  have k0 : 0 < n := by omega
  have n1 : (0 : Int) < (n : Int) := by omega
  clear hA hA2 hcell hL hln hR hk hkw
  go_enter Try.func16, Try.ntmps16
  go_upto_region 3 with fail
  go_cut [4] (fun s4 wx => s4 = .pointer (some ⟨w.heap.size + 1, 0, none⟩) ∧ RSt w wx w.heap.size ⟨5, 0, noG, 0, 0⟩)
  case first =>
    have HB0 := Lib.hid ((Blk.new w 23 #[.int .i64 0, .int .i64 0, .string { data := #[] }, .int .i64 0, .int .i64 0]).alloc (.cells #[.int .i64 5, .int .i64 0, .string { data := #[] }, .int .i64 0, .int .i64 0] 23))
    have hb1 := Blk.new (w.alloc (.cells #[.int .i64 0, .int .i64 0, .string { data := #[] }, .int .i64 0, .int .i64 0] 23)) 23 #[.int .i64 5, .int .i64 0, .string { data := #[] }, .int .i64 0, .int .i64 0]
    rw [World.size_alloc] at hb1
    have HB1 := Lib.hid hb1
    clear hb1
    go_wp2_with fail
    go_meet
    exact ⟨rfl, HB1.out, HB0.out, ((Below.refl _ _).alloc (Nat.le_refl _) _).alloc (by simp) _⟩
  case rest =>
  obtain ⟨rfl, hst⟩ := hcut
  obtain ⟨w1, rfl⟩ : ∃ wq : World, wq = wc := ⟨_, rfl⟩
  have HST := Lib.hid hst
  have HA1 := Lib.hid (HA.out.below HST.out.below (Nat.le_refl _))
  have h1 := (HST.out.below.cell (p := ⟨b, off, none⟩) hbb).trans h0
  have r0 : w1.cell? ⟨w.heap.size + 1, 0, none⟩ = some (.int .i64 5) := HST.out.rcd.cell 0
  have rl := HST.out.rcd.lt
  clear h0 hst
  by_cases hs1 : n < 17
  · have hR := HR.out
    rw [HS.out.1 hs1] at hR
    injection hR with hf3 hf4
    subst hf3 hf4
    have hsi : (n : Int) < 17 := by omega
    have q0 : w1.cell? ⟨w.heap.size, 0, none⟩ = some (.int .i64 0) := HST.out.res.cell 0
    have q1 : w1.cell? ⟨w.heap.size, 1, none⟩ = some (.int .i64 0) := HST.out.res.cell 1
    have q2 : w1.cell? ⟨w.heap.size, 2, none⟩ = some (.string noG) := HST.out.res.cell 2
    have q3 : w1.cell? ⟨w.heap.size, 3, none⟩ = some (.int .i64 0) := HST.out.res.cell 3
    have q4 : w1.cell? ⟨w.heap.size, 4, none⟩ = some (.int .i64 0) := HST.out.res.cell 4
    have p0 := HST.out.res.frozen 0
    have p1 := HST.out.res.frozen 1
    have p2 := HST.out.res.frozen 2
    have p3 := HST.out.res.frozen 3
    have p4 := HST.out.res.frozen 4
    have ql := HST.out.res.lt
    have HB := Lib.hid HST.out.below
    clear HR HS
    go_wp2_with fail
    refine (len_5 b off n cap _ h1 hn).mono ?_
    rintro e wq ⟨rfl, rfl⟩
    go_wp2_with (first | (go_at_call 23; (with_reducible refine (tagged_5 _).mono ?_); rintro e w' ⟨rfl, rfl⟩) | (go_at_call 24; (with_reducible refine (named_5 _).mono ?_); rintro e w' ⟨rfl, rfl⟩) | (go_at_call 25; (with_reducible refine (valued_5 _).mono ?_); rintro e w' ⟨rfl, rfl⟩) | fail)
    refine bodyPost_ret (v := .tuple #[.agg zeroR.cells, .int .i64 1]) ?_ rfl ⟨rfl, by have := HB.out; (repeat (first | (with_reducible assumption) | (with_reducible exact Below.refl _ _) | ((with_reducible refine Below.setCell ?_ ?_ _); rotate_left; · (first | omega | (simp; done) | (simp; omega) | (simp at *; omega))) | ((with_reducible refine Below.alloc ?_ ?_ _); rotate_left; · (first | omega | (simp; done) | (simp; omega) | (simp at *; omega))) | (with_reducible refine Below.drew ?_) | (with_reducible refine below_drewN ?_ _) | ((refine Below.trans ?_ (Below.mono (by with_reducible assumption) ?_)); rotate_left; · (first | omega | (simp; done) | (simp; omega) | (simp at *; omega)))))⟩
    simp [results, Try.results16, go_sem, q0, q1, q2, q3, q4]
    rfl
  by_cases hs2 : 17 < n
  · have hR := HR.out
    rw [HS.out.2.1 hs2] at hR
    injection hR with hf3 hf4
    subst hf3 hf4
    have hsi : ¬ (n : Int) < 17 := by omega
    have hsj : 17 < (n : Int) := by omega
    have q0 : w1.cell? ⟨w.heap.size, 0, none⟩ = some (.int .i64 0) := HST.out.res.cell 0
    have q1 : w1.cell? ⟨w.heap.size, 1, none⟩ = some (.int .i64 0) := HST.out.res.cell 1
    have q2 : w1.cell? ⟨w.heap.size, 2, none⟩ = some (.string noG) := HST.out.res.cell 2
    have q3 : w1.cell? ⟨w.heap.size, 3, none⟩ = some (.int .i64 0) := HST.out.res.cell 3
    have q4 : w1.cell? ⟨w.heap.size, 4, none⟩ = some (.int .i64 0) := HST.out.res.cell 4
    have p0 := HST.out.res.frozen 0
    have p1 := HST.out.res.frozen 1
    have p2 := HST.out.res.frozen 2
    have p3 := HST.out.res.frozen 3
    have p4 := HST.out.res.frozen 4
    have ql := HST.out.res.lt
    have HB := Lib.hid HST.out.below
    clear HR HS
    go_wp2_with fail
    refine (len_5 b off n cap _ h1 hn).mono ?_
    rintro e wq ⟨rfl, rfl⟩
    go_wp2_with (first | (go_at_call 23; (with_reducible refine (tagged_5 _).mono ?_); rintro e w' ⟨rfl, rfl⟩) | (go_at_call 24; (with_reducible refine (named_5 _).mono ?_); rintro e w' ⟨rfl, rfl⟩) | (go_at_call 25; (with_reducible refine (valued_5 _).mono ?_); rintro e w' ⟨rfl, rfl⟩) | fail)
    refine bodyPost_ret (v := .tuple #[.agg zeroR.cells, .int .i64 2]) ?_ rfl ⟨rfl, by have := HB.out; (repeat (first | (with_reducible assumption) | (with_reducible exact Below.refl _ _) | ((with_reducible refine Below.setCell ?_ ?_ _); rotate_left; · (first | omega | (simp; done) | (simp; omega) | (simp at *; omega))) | ((with_reducible refine Below.alloc ?_ ?_ _); rotate_left; · (first | omega | (simp; done) | (simp; omega) | (simp at *; omega))) | (with_reducible refine Below.drew ?_) | (with_reducible refine below_drewN ?_ _) | ((refine Below.trans ?_ (Below.mono (by with_reducible assumption) ?_)); rotate_left; · (first | omega | (simp; done) | (simp; omega) | (simp at *; omega)))))⟩
    simp [results, Try.results16, go_sem, q0, q1, q2, q3, q4]
    rfl
  have hfit : n = 17 := by omega
  have hR := HR.out
  rw [HS.out.2.2 hfit] at hR
  have hsi : ¬ (n : Int) < 17 := by omega
  have hsj : ¬ 17 < (n : Int) := by omega
  obtain ⟨vt, hvt⟩ : ∃ x, x = val8 (L.drop 1) := ⟨_, rfl⟩
  have HVT := Lib.hid hvt.symm
  rw [← hvt] at hR
  obtain ⟨vi, hvi⟩ : ∃ x, x = val8 (L.drop (9)) := ⟨_, rfl⟩
  have HVI := Lib.hid hvi.symm
  rw [← hvi] at hR
  have HF := Lib.hid hR
  have hfa : n ≤ 17 := by omega
  have hfb : 17 ≤ n := by omega
  have HFT := Lib.hid hfit
  clear hfit
  clear hR HR HS hvt hs1 hs2 hvi
  go_wp2_with fail
  refine (len_5 b off n cap _ h1 hn).mono ?_
  rintro e wq ⟨rfl, rfl⟩
  go_wp2_with fail
  refine (at_to b off n cap 1 1 vt L _ rfl HVT.out HN.out HA1.out HL.out (by omega) hn2).mono ?_
  rintro e wq ⟨rfl, rfl⟩
  have c1 : w1.cell? ⟨w.heap.size + 1, 1, none⟩ = some (.int .i64 0) := HST.out.rcd.cell 1
  have f1 := HST.out.rcd.frozen 1
  have HS2 := Lib.hid (HST.out.put 1 (.int .i64 vt) ⟨5, vt, noG, 0, 0⟩ rfl)
  obtain ⟨w2, hw2⟩ : ∃ wq : World, wq = w1.setCell ⟨w.heap.size + 1, 1, none⟩ (.int .i64 vt) := ⟨_, rfl⟩
  go_upto_region 12 with fail
  rw [← hw2] at HS2 ⊢
  clear hw2 c1 f1 r0 rl h1
  have r0 : w2.cell? ⟨w.heap.size + 1, 0, none⟩ = some (.int .i64 5) := HS2.out.rcd.cell 0
  have rl := HS2.out.rcd.lt
  have HAw2 := Lib.hid (HA.out.below HS2.out.below (Nat.le_refl _))
  go_wp2_with (first | (go_at_call 23; (with_reducible refine (tagged_5 _).mono ?_); rintro e w' ⟨rfl, rfl⟩) | (go_at_call 24; (with_reducible refine (named_5 _).mono ?_); rintro e w' ⟨rfl, rfl⟩) | (go_at_call 25; (with_reducible refine (valued_5 _).mono ?_); rintro e w' ⟨rfl, rfl⟩) | fail)
  refine (at_to b off n cap (9) 9 vi L _ rfl HVI.out HN.out HAw2.out HL.out (by omega) hn2).mono ?_
  rintro e wq ⟨rfl, rfl⟩
  have c1 : w2.cell? ⟨w.heap.size + 1, 4, none⟩ = some (.int .i64 0) := HS2.out.rcd.cell 4
  have f1 := HS2.out.rcd.frozen 4
  have HS3 := Lib.hid (HS2.out.put 4 (.int .i64 vi) ⟨5, vt, noG, 0, vi⟩ rfl)
  obtain ⟨w3, hww3⟩ : ∃ wq : World, wq = w2.setCell ⟨w.heap.size + 1, 4, none⟩ (.int .i64 vi) := ⟨_, rfl⟩
  go_upto_region 18 with (first | (go_at_call 23; (with_reducible refine (tagged_5 _).mono ?_); rintro e w' ⟨rfl, rfl⟩) | (go_at_call 24; (with_reducible refine (named_5 _).mono ?_); rintro e w' ⟨rfl, rfl⟩) | (go_at_call 25; (with_reducible refine (valued_5 _).mono ?_); rintro e w' ⟨rfl, rfl⟩) | fail)
  rw [← hww3] at HS3 ⊢
  clear hww3 c1 f1 r0 rl
  have r0 : w3.cell? ⟨w.heap.size + 1, 0, none⟩ = some (.int .i64 5) := HS3.out.rcd.cell 0
  have rl := HS3.out.rcd.lt
  have HAw3 := Lib.hid (HA.out.below HS3.out.below (Nat.le_refl _))
  have r1 : w3.cell? ⟨w.heap.size + 1, 1, none⟩ = some (.int .i64 vt) := HS3.out.rcd.cell 1
  have r2 : w3.cell? ⟨w.heap.size + 1, 2, none⟩ = some (.string noG) := HS3.out.rcd.cell 2
  have r3 : w3.cell? ⟨w.heap.size + 1, 3, none⟩ = some (.int .i64 0) := HS3.out.rcd.cell 3
  have r4 : w3.cell? ⟨w.heap.size + 1, 4, none⟩ = some (.int .i64 vi) := HS3.out.rcd.cell 4
  obtain ⟨x, hx⟩ : ∃ x, x = recErr ⟨5, vt, noG, 0, vi⟩ := ⟨_, rfl⟩
  have HX := Lib.hid hx
  have hf2 := HF.out
  unfold okR at hf2
  rw [← hx] at hf2
  have HF2 := Lib.hid hf2
  clear hf2 hx HF
  go_wp2_with (first | (go_at_call 23; (with_reducible refine (tagged_5 _).mono ?_); rintro e w' ⟨rfl, rfl⟩) | (go_at_call 24; (with_reducible refine (named_5 _).mono ?_); rintro e w' ⟨rfl, rfl⟩) | (go_at_call 25; (with_reducible refine (valued_5 _).mono ?_); rintro e w' ⟨rfl, rfl⟩) | fail)
  refine (rcheck_is 5 vt noG 0 vi x _ noG_size HX.out.symm).mono ?_
  rintro e w9 ⟨rfl, hb9⟩
  have HRS := Lib.hid (HS3.out.res.below hb9 HS3.out.res.lt)
  have HRC := Lib.hid (HS3.out.rcd.below hb9 HS3.out.rcd.lt)
  have HB := Lib.hid (HS3.out.below.trans (hb9.mono HS3.out.below.size))
  clear hb9 r0 r1 r2 r3 r4 rl
  have q0 : w9.cell? ⟨w.heap.size, 0, none⟩ = some (.int .i64 0) := HRS.out.cell 0
  have q1 : w9.cell? ⟨w.heap.size, 1, none⟩ = some (.int .i64 0) := HRS.out.cell 1
  have q2 : w9.cell? ⟨w.heap.size, 2, none⟩ = some (.string noG) := HRS.out.cell 2
  have q3 : w9.cell? ⟨w.heap.size, 3, none⟩ = some (.int .i64 0) := HRS.out.cell 3
  have q4 : w9.cell? ⟨w.heap.size, 4, none⟩ = some (.int .i64 0) := HRS.out.cell 4
  have p0 := HRS.out.frozen 0
  have p1 := HRS.out.frozen 1
  have p2 := HRS.out.frozen 2
  have p3 := HRS.out.frozen 3
  have p4 := HRS.out.frozen 4
  have ql := HRS.out.lt
  by_cases hx0 : x = 0
  · subst hx0
    have hf2 := HF2.out
    rw [if_pos rfl] at hf2
    injection hf2 with hf3 hf4
    subst hf3 hf4
    have r0 : w9.cell? ⟨w.heap.size + 1, 0, none⟩ = some (.int .i64 5) := HRC.out.cell 0
    have r1 : w9.cell? ⟨w.heap.size + 1, 1, none⟩ = some (.int .i64 vt) := HRC.out.cell 1
    have r2 : w9.cell? ⟨w.heap.size + 1, 2, none⟩ = some (.string noG) := HRC.out.cell 2
    have r3 : w9.cell? ⟨w.heap.size + 1, 3, none⟩ = some (.int .i64 0) := HRC.out.cell 3
    have r4 : w9.cell? ⟨w.heap.size + 1, 4, none⟩ = some (.int .i64 vi) := HRC.out.cell 4
    have rl := HRC.out.lt
    clear HF2
    go_wp2_with fail
    refine bodyPost_ret (v := .tuple #[.agg (Rec.mk 5 vt noG 0 vi).cells, .int .i64 0]) ?_ rfl ⟨rfl, by have := HB.out; (repeat (first | (with_reducible assumption) | (with_reducible exact Below.refl _ _) | ((with_reducible refine Below.setCell ?_ ?_ _); rotate_left; · (first | omega | (simp; done) | (simp; omega) | (simp at *; omega))) | ((with_reducible refine Below.alloc ?_ ?_ _); rotate_left; · (first | omega | (simp; done) | (simp; omega) | (simp at *; omega))) | (with_reducible refine Below.drew ?_) | (with_reducible refine below_drewN ?_ _) | ((refine Below.trans ?_ (Below.mono (by with_reducible assumption) ?_)); rotate_left; · (first | omega | (simp; done) | (simp; omega) | (simp at *; omega)))))⟩
    simp [results, Try.results16, go_sem, q0, q1, q2, q3, q4]
    rfl
  · have hx1 : (x != 0) = true := by simp [hx0]
    have hf2 := HF2.out
    rw [if_neg hx0] at hf2
    injection hf2 with hf3 hf4
    subst hf3 hf4
    clear HF2 hx0
    go_wp2_with (first | (go_at_call 23; (with_reducible refine (tagged_5 _).mono ?_); rintro e w' ⟨rfl, rfl⟩) | (go_at_call 24; (with_reducible refine (named_5 _).mono ?_); rintro e w' ⟨rfl, rfl⟩) | (go_at_call 25; (with_reducible refine (valued_5 _).mono ?_); rintro e w' ⟨rfl, rfl⟩) | fail)
    refine bodyPost_ret (v := .tuple #[.agg zeroR.cells, .int .i64 x]) ?_ rfl ⟨rfl, by have := HB.out; (repeat (first | (with_reducible assumption) | (with_reducible exact Below.refl _ _) | ((with_reducible refine Below.setCell ?_ ?_ _); rotate_left; · (first | omega | (simp; done) | (simp; omega) | (simp at *; omega))) | ((with_reducible refine Below.alloc ?_ ?_ _); rotate_left; · (first | omega | (simp; done) | (simp; omega) | (simp at *; omega))) | (with_reducible refine Below.drew ?_) | (with_reducible refine below_drewN ?_ _) | ((refine Below.trans ?_ (Below.mono (by with_reducible assumption) ?_)); rotate_left; · (first | omega | (simp; done) | (simp; omega) | (simp at *; omega)))))⟩
    simp [results, Try.results16, go_sem, q0, q1, q2, q3, q4]
    rfl
set_option maxHeartbeats 400000 in
theorem len_6 (b off n cap : Nat) (w : World) (h0 : w.cell? ⟨b, off, none⟩ = some (.int .u8 6)) (hn : 1 ≤ n) :
    Calls Try.prog 31 #[.slice (some ⟨b, off, none⟩) n cap] w fun e w' => e = .returned (.int .i64 25) ∧ w = w' := by
  have n1 : (0 : Int) < (n : Int) := by omega
  have n2 : 0 < n := by omega
  go_enter Try.func31, Try.ntmps31
  go_wp2_with (first | (go_at_call 23; (with_reducible refine (tagged_6 _).mono ?_); rintro e w' ⟨rfl, rfl⟩) | (go_at_call 24; (with_reducible refine (named_6 _).mono ?_); rintro e w' ⟨rfl, rfl⟩) | (go_at_call 25; (with_reducible refine (valued_6 _).mono ?_); rintro e w' ⟨rfl, rfl⟩) | fail)
  go_ret
  exact ⟨rfl, rfl⟩
set_option maxRecDepth 100000 in
set_option maxHeartbeats 1000000 in
theorem rget_6 (b off n cap : Nat) (L : List Int) (Rr : Rec) (E : Int) (w : World) (hln : L.length = n) (hA : IntsAt .u8 w (some ⟨b, off, none⟩) L) (hL : ∀ x ∈ L, U8 x) (hn : 1 ≤ n) (hn2 : n ≤ 140737488351232) (hk : L.getD 0 0 = 6) (hR : getS L = (Rr, E)) :
    Calls Try.prog 16 #[.slice (some ⟨b, off, none⟩) n cap] w (GetBack Rr E w) := by
  have hA2 := hA
  obtain ⟨b', off', e', hbb, hcell⟩ := hA (by omega)
  cases e'
  have h0 := hcell 0 (by omega)
  rw [Nat.add_zero, hk] at h0
  have HL := Lib.hid hL
  have HN := Lib.hid hln
  have HC := Lib.hid hcell
  have HA := Lib.hid hA2
  have hkw : Within (6 : Int) 1 6 := ⟨by decide, by decide⟩
  have HS := Lib.hid (getS_two (L := L) (fun t i v => ⟨6, t, noG, v, i⟩) (fun t M s x M2 s2 h h2 => by rw [getS_of (by rw [hln]; exact hn) hk.symm hkw h, if_neg (by omega), if_neg (by omega), if_pos rfl, h2]))
  have HR := Lib.hid hR
  rw [hln] at HS
  have nz : ((n : Int) == 0) = false := by rw [beq_eq_false_iff_ne]; omega
  have k0 : 0 < n := by omega
  have n1 : (0 : Int) < (n : Int) := by omega
  clear hA hA2 hcell hL hln hR hk hkw
  go_enter Try.func16, Try.ntmps16
  go_upto_region 3 with fail
  go_cut [4] (fun s4 wx => s4 = .pointer (some ⟨w.heap.size + 1, 0, none⟩) ∧ RSt w wx w.heap.size ⟨6, 0, noG, 0, 0⟩)
  case first =>
    have HB0 := Lib.hid ((Blk.new w 23 #[.int .i64 0, .int .i64 0, .string { data := #[] }, .int .i64 0, .int .i64 0]).alloc (.cells #[.int .i64 6, .int .i64 0, .string { data := #[] }, .int .i64 0, .int .i64 0] 23))
    have hb1 := Blk.new (w.alloc (.cells #[.int .i64 0, .int .i64 0, .string { data := #[] }, .int .i64 0, .int .i64 0] 23)) 23 #[.int .i64 6, .int .i64 0, .string { data := #[] }, .int .i64 0, .int .i64 0]
    rw [World.size_alloc] at hb1
    have HB1 := Lib.hid hb1
    clear hb1
    go_wp2_with fail
    go_meet
    exact ⟨rfl, HB1.out, HB0.out, ((Below.refl _ _).alloc (Nat.le_refl _) _).alloc (by simp) _⟩
  case rest =>
  obtain ⟨rfl, hst⟩ := hcut
  obtain ⟨w1, rfl⟩ : ∃ wq : World, wq = wc := ⟨_, rfl⟩
  have HST := Lib.hid hst
  have HA1 := Lib.hid (HA.out.below HST.out.below (Nat.le_refl _))
  have h1 := (HST.out.below.cell (p := ⟨b, off, none⟩) hbb).trans h0
  have r0 : w1.cell? ⟨w.heap.size + 1, 0, none⟩ = some (.int .i64 6) := HST.out.rcd.cell 0
  have rl := HST.out.rcd.lt
  clear h0 hst
  by_cases hs1 : n < 25
  · have hR := HR.out
    rw [HS.out.1 hs1] at hR
    injection hR with hf3 hf4
    subst hf3 hf4
    have hsi : (n : Int) < 25 := by omega
    have q0 : w1.cell? ⟨w.heap.size, 0, none⟩ = some (.int .i64 0) := HST.out.res.cell 0
    have q1 : w1.cell? ⟨w.heap.size, 1, none⟩ = some (.int .i64 0) := HST.out.res.cell 1
    have q2 : w1.cell? ⟨w.heap.size, 2, none⟩ = some (.string noG) := HST.out.res.cell 2
    have q3 : w1.cell? ⟨w.heap.size, 3, none⟩ = some (.int .i64 0) := HST.out.res.cell 3
    have q4 : w1.cell? ⟨w.heap.size, 4, none⟩ = some (.int .i64 0) := HST.out.res.cell 4
    have p0 := HST.out.res.frozen 0
    have p1 := HST.out.res.frozen 1
    have p2 := HST.out.res.frozen 2
    have p3 := HST.out.res.frozen 3
    have p4 := HST.out.res.frozen 4
    have ql := HST.out.res.lt
    have HB := Lib.hid HST.out.below
    clear HR HS
    go_wp2_with fail
    refine (len_6 b off n cap _ h1 hn).mono ?_
    rintro e wq ⟨rfl, rfl⟩
    go_wp2_with (first | (go_at_call 23; (with_reducible refine (tagged_6 _).mono ?_); rintro e w' ⟨rfl, rfl⟩) | (go_at_call 24; (with_reducible refine (named_6 _).mono ?_); rintro e w' ⟨rfl, rfl⟩) | (go_at_call 25; (with_reducible refine (valued_6 _).mono ?_); rintro e w' ⟨rfl, rfl⟩) | fail)
    refine bodyPost_ret (v := .tuple #[.agg zeroR.cells, .int .i64 1]) ?_ rfl ⟨rfl, by have := HB.out; (repeat (first | (with_reducible assumption) | (with_reducible exact Below.refl _ _) | ((with_reducible refine Below.setCell ?_ ?_ _); rotate_left; · (first | omega | (simp; done) | (simp; omega) | (simp at *; omega))) | ((with_reducible refine Below.alloc ?_ ?_ _); rotate_left; · (first | omega | (simp; done) | (simp; omega) | (simp at *; omega))) | (with_reducible refine Below.drew ?_) | (with_reducible refine below_drewN ?_ _) | ((refine Below.trans ?_ (Below.mono (by with_reducible assumption) ?_)); rotate_left; · (first | omega | (simp; done) | (simp; omega) | (simp at *; omega)))))⟩
    simp [results, Try.results16, go_sem, q0, q1, q2, q3, q4]
    rfl
  by_cases hs2 : 25 < n
  · have hR := HR.out
    rw [HS.out.2.1 hs2] at hR
    injection hR with hf3 hf4
    subst hf3 hf4
    have hsi : ¬ (n : Int) < 25 := by omega
    have hsj : 25 < (n : Int) := by omega
    have q0 : w1.cell? ⟨w.heap.size, 0, none⟩ = some (.int .i64 0) := HST.out.res.cell 0
    have q1 : w1.cell? ⟨w.heap.size, 1, none⟩ = some (.int .i64 0) := HST.out.res.cell 1
    have q2 : w1.cell? ⟨w.heap.size, 2, none⟩ = some (.string noG) := HST.out.res.cell 2
    have q3 : w1.cell? ⟨w.heap.size, 3, none⟩ = some (.int .i64 0) := HST.out.res.cell 3
    have q4 : w1.cell? ⟨w.heap.size, 4, none⟩ = some (.int .i64 0) := HST.out.res.cell 4
    have p0 := HST.out.res.frozen 0
    have p1 := HST.out.res.frozen 1
    have p2 := HST.out.res.frozen 2
    have p3 := HST.out.res.frozen 3
    have p4 := HST.out.res.frozen 4
    have ql := HST.out.res.lt
    have HB := Lib.hid HST.out.below
    clear HR HS
    go_wp2_with fail
    refine (len_6 b off n cap _ h1 hn).mono ?_
    rintro e wq ⟨rfl, rfl⟩
    go_wp2_with (first | (go_at_call 23; (with_reducible refine (tagged_6 _).mono ?_); rintro e w' ⟨rfl, rfl⟩) | (go_at_call 24; (with_reducible refine (named_6 _).mono ?_); rintro e w' ⟨rfl, rfl⟩) | (go_at_call 25; (with_reducible refine (valued_6 _).mono ?_); rintro e w' ⟨rfl, rfl⟩) | fail)
    refine bodyPost_ret (v := .tuple #[.agg zeroR.cells, .int .i64 2]) ?_ rfl ⟨rfl, by have := HB.out; (repeat (first | (with_reducible assumption) | (with_reducible exact Below.refl _ _) | ((with_reducible refine Below.setCell ?_ ?_ _); rotate_left; · (first | omega | (simp; done) | (simp; omega) | (simp at *; omega))) | ((with_reducible refine Below.alloc ?_ ?_ _); rotate_left; · (first | omega | (simp; done) | (simp; omega) | (simp at *; omega))) | (with_reducible refine Below.drew ?_) | (with_reducible refine below_drewN ?_ _) | ((refine Below.trans ?_ (Below.mono (by with_reducible assumption) ?_)); rotate_left; · (first | omega | (simp; done) | (simp; omega) | (simp at *; omega)))))⟩
    simp [results, Try.results16, go_sem, q0, q1, q2, q3, q4]
    rfl
  have hfit : n = 25 := by omega
  have hR := HR.out
  rw [HS.out.2.2 hfit] at hR
  have hsi : ¬ (n : Int) < 25 := by omega
  have hsj : ¬ 25 < (n : Int) := by omega
  obtain ⟨vt, hvt⟩ : ∃ x, x = val8 (L.drop 1) := ⟨_, rfl⟩
  have HVT := Lib.hid hvt.symm
  rw [← hvt] at hR
  obtain ⟨vi, hvi⟩ : ∃ x, x = val8 (L.drop (9)) := ⟨_, rfl⟩
  have HVI := Lib.hid hvi.symm
  rw [← hvi] at hR
  obtain ⟨vv, hvv⟩ : ∃ x, x = val8 (L.drop (17)) := ⟨_, rfl⟩
  have HVV := Lib.hid hvv.symm
  rw [← hvv] at hR
  have HF := Lib.hid hR
  have hfa : n ≤ 25 := by omega
  have hfb : 25 ≤ n := by omega
  have HFT := Lib.hid hfit
  clear hfit
  clear hR HR HS hvt hs1 hs2 hvi hvv
  go_wp2_with fail
  refine (len_6 b off n cap _ h1 hn).mono ?_
  rintro e wq ⟨rfl, rfl⟩
  go_wp2_with fail
  refine (at_to b off n cap 1 1 vt L _ rfl HVT.out HN.out HA1.out HL.out (by omega) hn2).mono ?_
  rintro e wq ⟨rfl, rfl⟩
  have c1 : w1.cell? ⟨w.heap.size + 1, 1, none⟩ = some (.int .i64 0) := HST.out.rcd.cell 1
  have f1 := HST.out.rcd.frozen 1
  have HS2 := Lib.hid (HST.out.put 1 (.int .i64 vt) ⟨6, vt, noG, 0, 0⟩ rfl)
  obtain ⟨w2, hw2⟩ : ∃ wq : World, wq = w1.setCell ⟨w.heap.size + 1, 1, none⟩ (.int .i64 vt) := ⟨_, rfl⟩
  go_upto_region 12 with fail
  rw [← hw2] at HS2 ⊢
  clear hw2 c1 f1 r0 rl h1
  have r0 : w2.cell? ⟨w.heap.size + 1, 0, none⟩ = some (.int .i64 6) := HS2.out.rcd.cell 0
  have rl := HS2.out.rcd.lt
  have HAw2 := Lib.hid (HA.out.below HS2.out.below (Nat.le_refl _))
  go_wp2_with (first | (go_at_call 23; (with_reducible refine (tagged_6 _).mono ?_); rintro e w' ⟨rfl, rfl⟩) | (go_at_call 24; (with_reducible refine (named_6 _).mono ?_); rintro e w' ⟨rfl, rfl⟩) | (go_at_call 25; (with_reducible refine (valued_6 _).mono ?_); rintro e w' ⟨rfl, rfl⟩) | fail)
  refine (at_to b off n cap (9) 9 vi L _ rfl HVI.out HN.out HAw2.out HL.out (by omega) hn2).mono ?_
  rintro e wq ⟨rfl, rfl⟩
  have c1 : w2.cell? ⟨w.heap.size + 1, 4, none⟩ = some (.int .i64 0) := HS2.out.rcd.cell 4
  have f1 := HS2.out.rcd.frozen 4
  have HS3 := Lib.hid (HS2.out.put 4 (.int .i64 vi) ⟨6, vt, noG, 0, vi⟩ rfl)
  obtain ⟨w3, hww3⟩ : ∃ wq : World, wq = w2.setCell ⟨w.heap.size + 1, 4, none⟩ (.int .i64 vi) := ⟨_, rfl⟩
  go_upto_region 18 with (first | (go_at_call 23; (with_reducible refine (tagged_6 _).mono ?_); rintro e w' ⟨rfl, rfl⟩) | (go_at_call 24; (with_reducible refine (named_6 _).mono ?_); rintro e w' ⟨rfl, rfl⟩) | (go_at_call 25; (with_reducible refine (valued_6 _).mono ?_); rintro e w' ⟨rfl, rfl⟩) | fail)
  rw [← hww3] at HS3 ⊢
  clear hww3 c1 f1 r0 rl
  have r0 : w3.cell? ⟨w.heap.size + 1, 0, none⟩ = some (.int .i64 6) := HS3.out.rcd.cell 0
  have rl := HS3.out.rcd.lt
  have HAw3 := Lib.hid (HA.out.below HS3.out.below (Nat.le_refl _))
  go_wp2_with (first | (go_at_call 23; (with_reducible refine (tagged_6 _).mono ?_); rintro e w' ⟨rfl, rfl⟩) | (go_at_call 24; (with_reducible refine (named_6 _).mono ?_); rintro e w' ⟨rfl, rfl⟩) | (go_at_call 25; (with_reducible refine (valued_6 _).mono ?_); rintro e w' ⟨rfl, rfl⟩) | fail)
  refine (at_to b off n cap (17) 17 vv L _ rfl HVV.out HN.out HAw3.out HL.out (by omega) hn2).mono ?_
  rintro e wq ⟨rfl, rfl⟩
  have c1 : w3.cell? ⟨w.heap.size + 1, 3, none⟩ = some (.int .i64 0) := HS3.out.rcd.cell 3
  have f1 := HS3.out.rcd.frozen 3
  have HS4 := Lib.hid (HS3.out.put 3 (.int .i64 vv) ⟨6, vt, noG, vv, vi⟩ rfl)
  obtain ⟨w4, hww4⟩ : ∃ wq : World, wq = w3.setCell ⟨w.heap.size + 1, 3, none⟩ (.int .i64 vv) := ⟨_, rfl⟩
  go_upto_region 21 with (first | (go_at_call 23; (with_reducible refine (tagged_6 _).mono ?_); rintro e w' ⟨rfl, rfl⟩) | (go_at_call 24; (with_reducible refine (named_6 _).mono ?_); rintro e w' ⟨rfl, rfl⟩) | (go_at_call 25; (with_reducible refine (valued_6 _).mono ?_); rintro e w' ⟨rfl, rfl⟩) | fail)
  rw [← hww4] at HS4 ⊢
  clear hww4 c1 f1 r0 rl
  have r0 : w4.cell? ⟨w.heap.size + 1, 0, none⟩ = some (.int .i64 6) := HS4.out.rcd.cell 0
  have rl := HS4.out.rcd.lt
  have HAw4 := Lib.hid (HA.out.below HS4.out.below (Nat.le_refl _))
  have r1 : w4.cell? ⟨w.heap.size + 1, 1, none⟩ = some (.int .i64 vt) := HS4.out.rcd.cell 1
  have r2 : w4.cell? ⟨w.heap.size + 1, 2, none⟩ = some (.string noG) := HS4.out.rcd.cell 2
  have r3 : w4.cell? ⟨w.heap.size + 1, 3, none⟩ = some (.int .i64 vv) := HS4.out.rcd.cell 3
  have r4 : w4.cell? ⟨w.heap.size + 1, 4, none⟩ = some (.int .i64 vi) := HS4.out.rcd.cell 4
  obtain ⟨x, hx⟩ : ∃ x, x = recErr ⟨6, vt, noG, vv, vi⟩ := ⟨_, rfl⟩
  have HX := Lib.hid hx
  have hf2 := HF.out
  unfold okR at hf2
  rw [← hx] at hf2
  have HF2 := Lib.hid hf2
  clear hf2 hx HF
  go_wp2_with (first | (go_at_call 23; (with_reducible refine (tagged_6 _).mono ?_); rintro e w' ⟨rfl, rfl⟩) | (go_at_call 24; (with_reducible refine (named_6 _).mono ?_); rintro e w' ⟨rfl, rfl⟩) | (go_at_call 25; (with_reducible refine (valued_6 _).mono ?_); rintro e w' ⟨rfl, rfl⟩) | fail)
  refine (rcheck_is 6 vt noG vv vi x _ noG_size HX.out.symm).mono ?_
  rintro e w9 ⟨rfl, hb9⟩
  have HRS := Lib.hid (HS4.out.res.below hb9 HS4.out.res.lt)
  have HRC := Lib.hid (HS4.out.rcd.below hb9 HS4.out.rcd.lt)
  have HB := Lib.hid (HS4.out.below.trans (hb9.mono HS4.out.below.size))
  clear hb9 r0 r1 r2 r3 r4 rl
  have q0 : w9.cell? ⟨w.heap.size, 0, none⟩ = some (.int .i64 0) := HRS.out.cell 0
  have q1 : w9.cell? ⟨w.heap.size, 1, none⟩ = some (.int .i64 0) := HRS.out.cell 1
  have q2 : w9.cell? ⟨w.heap.size, 2, none⟩ = some (.string noG) := HRS.out.cell 2
  have q3 : w9.cell? ⟨w.heap.size, 3, none⟩ = some (.int .i64 0) := HRS.out.cell 3
  have q4 : w9.cell? ⟨w.heap.size, 4, none⟩ = some (.int .i64 0) := HRS.out.cell 4
  have p0 := HRS.out.frozen 0
  have p1 := HRS.out.frozen 1
  have p2 := HRS.out.frozen 2
  have p3 := HRS.out.frozen 3
  have p4 := HRS.out.frozen 4
  have ql := HRS.out.lt
  by_cases hx0 : x = 0
  · subst hx0
    have hf2 := HF2.out
    rw [if_pos rfl] at hf2
    injection hf2 with hf3 hf4
    subst hf3 hf4
    have r0 : w9.cell? ⟨w.heap.size + 1, 0, none⟩ = some (.int .i64 6) := HRC.out.cell 0
    have r1 : w9.cell? ⟨w.heap.size + 1, 1, none⟩ = some (.int .i64 vt) := HRC.out.cell 1
    have r2 : w9.cell? ⟨w.heap.size + 1, 2, none⟩ = some (.string noG) := HRC.out.cell 2
    have r3 : w9.cell? ⟨w.heap.size + 1, 3, none⟩ = some (.int .i64 vv) := HRC.out.cell 3
    have r4 : w9.cell? ⟨w.heap.size + 1, 4, none⟩ = some (.int .i64 vi) := HRC.out.cell 4
    have rl := HRC.out.lt
    clear HF2
    go_wp2_with fail
    refine bodyPost_ret (v := .tuple #[.agg (Rec.mk 6 vt noG vv vi).cells, .int .i64 0]) ?_ rfl ⟨rfl, by have := HB.out; (repeat (first | (with_reducible assumption) | (with_reducible exact Below.refl _ _) | ((with_reducible refine Below.setCell ?_ ?_ _); rotate_left; · (first | omega | (simp; done) | (simp; omega) | (simp at *; omega))) | ((with_reducible refine Below.alloc ?_ ?_ _); rotate_left; · (first | omega | (simp; done) | (simp; omega) | (simp at *; omega))) | (with_reducible refine Below.drew ?_) | (with_reducible refine below_drewN ?_ _) | ((refine Below.trans ?_ (Below.mono (by with_reducible assumption) ?_)); rotate_left; · (first | omega | (simp; done) | (simp; omega) | (simp at *; omega)))))⟩
    simp [results, Try.results16, go_sem, q0, q1, q2, q3, q4]
    rfl
  · have hx1 : (x != 0) = true := by simp [hx0]
    have hf2 := HF2.out
    rw [if_neg hx0] at hf2
    injection hf2 with hf3 hf4
    subst hf3 hf4
    clear HF2 hx0
    go_wp2_with (first | (go_at_call 23; (with_reducible refine (tagged_6 _).mono ?_); rintro e w' ⟨rfl, rfl⟩) | (go_at_call 24; (with_reducible refine (named_6 _).mono ?_); rintro e w' ⟨rfl, rfl⟩) | (go_at_call 25; (with_reducible refine (valued_6 _).mono ?_); rintro e w' ⟨rfl, rfl⟩) | fail)
    refine bodyPost_ret (v := .tuple #[.agg zeroR.cells, .int .i64 x]) ?_ rfl ⟨rfl, by have := HB.out; (repeat (first | (with_reducible assumption) | (with_reducible exact Below.refl _ _) | ((with_reducible refine Below.setCell ?_ ?_ _); rotate_left; · (first | omega | (simp; done) | (simp; omega) | (simp at *; omega))) | ((with_reducible refine Below.alloc ?_ ?_ _); rotate_left; · (first | omega | (simp; done) | (simp; omega) | (simp at *; omega))) | (with_reducible refine Below.drew ?_) | (with_reducible refine below_drewN ?_ _) | ((refine Below.trans ?_ (Below.mono (by with_reducible assumption) ?_)); rotate_left; · (first | omega | (simp; done) | (simp; omega) | (simp at *; omega)))))⟩
    simp [results, Try.results16, go_sem, q0, q1, q2, q3, q4]
    rfl
set_option maxRecDepth 100000 in
set_option maxHeartbeats 1000000 in
theorem rget_empty (A : Option Addr) (cap : Nat) (w : World) :
    Calls Try.prog 16 #[.slice A 0 cap] w (GetBack zeroR 1 w) := by
  go_enter Try.func16, Try.ntmps16
  go_wp2_with fail
  refine bodyPost_ret (v := .tuple #[.agg zeroR.cells, .int .i64 1]) ?_ rfl ⟨rfl, by (repeat (first | (with_reducible assumption) | (with_reducible exact Below.refl _ _) | ((with_reducible refine Below.setCell ?_ ?_ _); rotate_left; · (first | omega | (simp; done) | (simp; omega) | (simp at *; omega))) | ((with_reducible refine Below.alloc ?_ ?_ _); rotate_left; · (first | omega | (simp; done) | (simp; omega) | (simp at *; omega))) | (with_reducible refine Below.drew ?_) | (with_reducible refine below_drewN ?_ _) | ((refine Below.trans ?_ (Below.mono (by with_reducible assumption) ?_)); rotate_left; · (first | omega | (simp; done) | (simp; omega) | (simp at *; omega)))))⟩
  simp [results, Try.results16, go_sem]
  rfl
set_option maxRecDepth 100000 in
set_option maxHeartbeats 1000000 in
theorem rget_kind (b off n cap : Nat) (L : List Int) (w : World) (hln : L.length = n) (hA : IntsAt .u8 w (some ⟨b, off, none⟩) L) (hL : ∀ x ∈ L, U8 x) (hn : 1 ≤ n) (hn2 : n ≤ 140737488351232) (hk : ¬ Within (L.getD 0 0) 1 6) :
    Calls Try.prog 16 #[.slice (some ⟨b, off, none⟩) n cap] w (GetBack zeroR 28 w) := by
  obtain ⟨b', off', e', hbb, hcell⟩ := hA (by omega)
  cases e'
  have h0 := hcell 0 (by omega)
  rw [Nat.add_zero] at h0
  obtain ⟨a0, b0⟩ := getD_u8 hL 0
  obtain ⟨k, hkk⟩ : ∃ k, k = L.getD 0 0 := ⟨_, rfl⟩
  rw [← hkk] at h0 a0 b0 hk
  have hk2 : k < 1 ∨ 6 < k := by unfold Within at hk; omega
  have nz : ((n : Int) == 0) = false := by rw [beq_eq_false_iff_ne]; omega
  have k0 : 0 < n := by omega
  have n1 : (0 : Int) < (n : Int) := by omega
  clear hA hcell hL hln hkk hk
  go_enter Try.func16, Try.ntmps16
  go_upto_region 3 with fail
  go_cut [4] (fun s4 wx => s4 = .pointer (some ⟨w.heap.size + 1, 0, none⟩) ∧ RSt w wx w.heap.size ⟨k, 0, noG, 0, 0⟩)
  case first =>
    have HB0 := Lib.hid ((Blk.new w 23 #[.int .i64 0, .int .i64 0, .string { data := #[] }, .int .i64 0, .int .i64 0]).alloc (.cells #[.int .i64 k, .int .i64 0, .string { data := #[] }, .int .i64 0, .int .i64 0] 23))
    have hb1 := Blk.new (w.alloc (.cells #[.int .i64 0, .int .i64 0, .string { data := #[] }, .int .i64 0, .int .i64 0] 23)) 23 #[.int .i64 k, .int .i64 0, .string { data := #[] }, .int .i64 0, .int .i64 0]
    rw [World.size_alloc] at hb1
    have HB1 := Lib.hid hb1
    clear hb1
    go_wp2_with fail
    go_meet
    exact ⟨rfl, HB1.out, HB0.out, ((Below.refl _ _).alloc (Nat.le_refl _) _).alloc (by simp) _⟩
  case rest =>
  obtain ⟨rfl, hst⟩ := hcut
  obtain ⟨w1, rfl⟩ : ∃ wq : World, wq = wc := ⟨_, rfl⟩
  have HST := Lib.hid hst
  have r0 : w1.cell? ⟨w.heap.size + 1, 0, none⟩ = some (.int .i64 k) := HST.out.rcd.cell 0
  have rl := HST.out.rcd.lt
  have HB := Lib.hid HST.out.below
  clear h0 hst
  rcases hk2 with hk2 | hk2
  all_goals
    have q0 : w1.cell? ⟨w.heap.size, 0, none⟩ = some (.int .i64 0) := HST.out.res.cell 0
    have q1 : w1.cell? ⟨w.heap.size, 1, none⟩ = some (.int .i64 0) := HST.out.res.cell 1
    have q2 : w1.cell? ⟨w.heap.size, 2, none⟩ = some (.string noG) := HST.out.res.cell 2
    have q3 : w1.cell? ⟨w.heap.size, 3, none⟩ = some (.int .i64 0) := HST.out.res.cell 3
    have q4 : w1.cell? ⟨w.heap.size, 4, none⟩ = some (.int .i64 0) := HST.out.res.cell 4
    have p0 := HST.out.res.frozen 0
    have p1 := HST.out.res.frozen 1
    have p2 := HST.out.res.frozen 2
    have p3 := HST.out.res.frozen 3
    have p4 := HST.out.res.frozen 4
    have ql := HST.out.res.lt
    go_wp2_with fail
    all_goals
      first
        | (exfalso; omega)
        | (refine bodyPost_ret (v := .tuple #[.agg zeroR.cells, .int .i64 28]) ?_ rfl ⟨rfl, by have := HB.out; (repeat (first | (with_reducible assumption) | (with_reducible exact Below.refl _ _) | ((with_reducible refine Below.setCell ?_ ?_ _); rotate_left; · (first | omega | (simp; done) | (simp; omega) | (simp at *; omega))) | ((with_reducible refine Below.alloc ?_ ?_ _); rotate_left; · (first | omega | (simp; done) | (simp; omega) | (simp at *; omega))) | (with_reducible refine Below.drew ?_) | (with_reducible refine below_drewN ?_ _) | ((refine Below.trans ?_ (Below.mono (by with_reducible assumption) ?_)); rotate_left; · (first | omega | (simp; done) | (simp; omega) | (simp at *; omega)))))⟩
           simp [results, Try.results16, go_sem, q0, q1, q2, q3, q4]
           rfl)
theorem rget_any (A : Option Addr) (n cap : Nat) (L : List Int) (R : Rec) (E : Int) (w : World) (hln : L.length = n) (hA : IntsAt .u8 w A L) (hL : ∀ x ∈ L, U8 x) (hn2 : n ≤ 140737488351232) (hcap : n ≤ cap) (hR : getS L = (R, E)) :
    Calls Try.prog 16 #[.slice A n cap] w (GetBack R E w) := by
  by_cases h0 : n = 0
  · subst h0
    have : getS L = (zeroR, 1) := by unfold getS; rw [if_pos hln]
    rw [this] at hR
    cases hR
    exact rget_empty A cap w
  · obtain ⟨b, off, rfl, _, _⟩ := hA (by omega)
    by_cases hk : Within (L.getD 0 0) 1 6
    · have h6 : L.getD 0 0 = 1 ∨ L.getD 0 0 = 2 ∨ L.getD 0 0 = 3 ∨ L.getD 0 0 = 4 ∨ L.getD 0 0 = 5 ∨ L.getD 0 0 = 6 := by unfold Within at hk; omega
      rcases h6 with h | h | h | h | h | h
      · exact rget_1 b off n cap L R E w hln hA hL (by omega) hn2 hcap h hR
      · exact rget_2 b off n cap L R E w hln hA hL (by omega) hn2 hcap h hR
      · exact rget_3 b off n cap L R E w hln hA hL (by omega) hn2 h hR
      · exact rget_4 b off n cap L R E w hln hA hL (by omega) hn2 h hR
      · exact rget_5 b off n cap L R E w hln hA hL (by omega) hn2 h hR
      · exact rget_6 b off n cap L R E w hln hA hL (by omega) hn2 h hR
    · have : getS L = (zeroR, 28) := by unfold getS; rw [if_neg (by omega)]; dsimp only; rw [if_pos hk]
      rw [this] at hR
      cases hR
      exact rget_kind b off n cap L w hln hA hL (by omega) hn2 hk
end Go.Proofs.Ytognidoohinipaa
