/-
  What is proved here: Get of package record, whatever comes in (chapter 11). Conditions: bytes are bytes.
-/
import Derived.Test.YtognidoohinipaaRecGet
namespace Go.Proofs.Ytognidoohinipaa
open Go.RowKit Go.Deep Go.Joins Go.WideShapes

set_option maxRecDepth 100000 in
set_option maxHeartbeats 1000000 in
theorem get_kind (b off n cap : Nat) (L : List Int) (w : World) (hln : L.length = n) (hA : IntsAt .u8 w (some ⟨b, off, none⟩) L) (hL : ∀ x ∈ L, U8 x) (hn : 1 ≤ n) (hn2 : n ≤ 140737488351232) (hcap : n ≤ cap) (hk : ¬ Within (L.getD 0 0) 1 6) :
    Calls Try.prog 15 #[.slice (some ⟨b, off, none⟩) n cap] w (GetBack zeroR 28 w) := by
  obtain ⟨b', off', e', hbb, hcell⟩ := hA (by omega)
  cases e'
  have h0 := hcell 0 (by omega)
  rw [Nat.add_zero] at h0
  obtain ⟨a0, b0⟩ := getD_u8 hL 0
  have HL := Lib.hid hL
  have HN := Lib.hid hln
  have HC := Lib.hid hcell
  obtain ⟨k, hkk⟩ : ∃ k, k = L.getD 0 0 := ⟨_, rfl⟩
  have HK := Lib.hid hk
  rw [← hkk] at h0 a0 b0 HK
  have dk := decide_eq_false HK.out
  clear hA hcell hL hln hkk hk
  have k0 : 0 < n := by omega
  have n1 : (1 : Int) ≤ (n : Int) := by omega
  have nz : ((n : Int) == 0) = false := by rw [beq_eq_false_iff_ne]; omega
  have HD := Lib.hid (show (L.drop 1).length = n - 1 by rw [List.length_drop, HN.out])
  go_enter Try.func15, Try.ntmps15
  go_upto_region 3 with fail
  go_cut [4, 5] (fun s4 s5 wx => s4 = .pointer (some ⟨w.heap.size + 1, 0, none⟩) ∧ s5 = .pointer (some ⟨w.heap.size + 2, 0, none⟩) ∧ Rest wx w.heap.size (w.heap.size + 1) (L.drop 1) ∧ Blk wx (w.heap.size + 2) 4 #[.bool false] ∧ Blk wx w.heap.size 23 zeroR.cells ∧ Below w.heap.size w wx ∧ wx.heap.size = w.heap.size + 3)
  case first =>
    by_cases hc1 : cap = 1
    · have hc2 : cap ≤ 1 := by omega
      have n1' : n = 1 := by omega
      subst hc1 n1'
      have HS := Lib.hid (start3 w #[.int .i64 0, .int .i64 0, .string { data := #[] }, .int .i64 0, .int .i64 0] #[.slice (some ⟨b, off, none⟩) 0 0] #[.bool false] 23 24 4)
      go_wp2
      go_meet
      obtain ⟨s1, s2, s3, s4, s5⟩ := HS.out
      exact ⟨rfl, rfl, ⟨b, off, 0, by rw [HD.out]; exact s2, by rw [HD.out]; omega, fun hp => absurd hp (by rw [HD.out]; omega)⟩, s3, s1, s4, s5⟩
    · have HS := Lib.hid (start3 w #[.int .i64 0, .int .i64 0, .string { data := #[] }, .int .i64 0, .int .i64 0] #[.slice (some ⟨b, off + 1, none⟩) (n - 1) (cap - 1)] #[.bool false] 23 24 4)
      go_wp2
      go_meet
      obtain ⟨s1, s2, s3, s4, s5⟩ := HS.out
      refine ⟨rfl, rfl, ⟨b, off + 1, cap - 1, by rw [HD.out]; exact s2, by rw [HD.out]; omega, fun hp => ⟨hbb, fun i hi => ?_⟩⟩, s3, s1, s4, s5⟩
      rw [HD.out] at hi
      rw [getD_drop, Nat.add_assoc]
      exact (s4.cell (p := ⟨b, off + (1 + i), none⟩) hbb).trans (HC.out (1 + i) (by rw [HN.out]; omega))
  case rest =>
  obtain ⟨rfl, rfl, hrest, hshort, hres, hbel, hsz⟩ := hcut
  obtain ⟨w1, rfl⟩ : ∃ wq : World, wq = wc := ⟨_, rfl⟩
  have h1 := (hbel.cell (p := ⟨b, off, none⟩) hbb).trans h0
  have hbl : b < w1.heap.size := by omega
  have HRE := Lib.hid hrest
  have HSH := Lib.hid hshort
  have HRS := Lib.hid hres
  have HBE := Lib.hid hbel
  have HSZ := Lib.hid hsz
  clear hrest hshort hres hbel hsz h0
  go_upto_region 5 with fail
  go_cut [7] (fun s7 wx => s7 = .pointer (some ⟨w.heap.size + 3, 0, none⟩) ∧ GSt w wx w.heap.size (L.drop 1) false ⟨k, 0, noG, 0, 0⟩)
  case first =>
    have hb1 := Blk.new w1 23 #[.int .i64 k, .int .i64 0, .string { data := #[] }, .int .i64 0, .int .i64 0]
    have HB1 := Lib.hid hb1
    clear hb1
    go_wp2
    go_meet
    refine ⟨by rw [HSZ.out], ⟨HRE.out.below ((Below.refl _ _).alloc (Nat.le_refl _) _) (by omega), HSH.out.alloc _, ?_, HRS.out.alloc _, HBE.out.alloc (by have := HSZ.out; omega) _, fun x hx => HL.out x (List.mem_of_mem_drop hx), by rw [HD.out]; omega⟩⟩
    have := HB1.out
    rw [HSZ.out] at this
    exact this
  case rest =>
  obtain ⟨rfl, hst⟩ := hcut
  have HST := Lib.hid hst
  clear h1 hbl HRE HSH HRS HBE HSZ hst
  have bl := HST.out.below.size
  have r0 : wc.cell? ⟨w.heap.size + 3, 0, none⟩ = some (.int .i64 k) := HST.out.rcd.cell 0
  have rl := HST.out.rcd.lt
  go_wp2_with fail
  refine (within_any _ _ _ _).mono ?_
  rintro e wq ⟨rfl, rfl⟩
  have q0 : wc.cell? ⟨w.heap.size, 0, none⟩ = some (.int .i64 0) := HST.out.res.cell 0
  have q1 : wc.cell? ⟨w.heap.size, 1, none⟩ = some (.int .i64 0) := HST.out.res.cell 1
  have q2 : wc.cell? ⟨w.heap.size, 2, none⟩ = some (.string noG) := HST.out.res.cell 2
  have q3 : wc.cell? ⟨w.heap.size, 3, none⟩ = some (.int .i64 0) := HST.out.res.cell 3
  have q4 : wc.cell? ⟨w.heap.size, 4, none⟩ = some (.int .i64 0) := HST.out.res.cell 4
  have p0 := HST.out.res.frozen 0
  have p1 := HST.out.res.frozen 1
  have p2 := HST.out.res.frozen 2
  have p3 := HST.out.res.frozen 3
  have p4 := HST.out.res.frozen 4
  have ql := HST.out.res.lt
  have HB := Lib.hid HST.out.below
  go_wp2_with fail
  refine bodyPost_ret (v := .tuple #[.agg zeroR.cells, .int .i64 28]) ?_ rfl ⟨rfl, by have := HB.out; (repeat (first | (with_reducible assumption) | (with_reducible exact Below.refl _ _) | ((with_reducible refine Below.setCell ?_ ?_ _); rotate_left; · (first | omega | (simp; done) | (simp; omega) | (simp at *; omega))) | ((with_reducible refine Below.alloc ?_ ?_ _); rotate_left; · (first | omega | (simp; done) | (simp; omega) | (simp at *; omega))) | (with_reducible refine Below.drew ?_) | (with_reducible refine below_drewN ?_ _) | ((refine Below.trans ?_ (Below.mono (by with_reducible assumption) ?_)); rotate_left; · (first | omega | (simp; done) | (simp; omega) | (simp at *; omega)))))⟩
  simp [results, Try.results15, go_sem, q0, q1, q2, q3, q4]
  rfl
theorem get_any (A : Option Addr) (n cap : Nat) (L : List Int) (R : Rec) (E : Int) (w : World) (hln : L.length = n) (hA : IntsAt .u8 w A L) (hL : ∀ x ∈ L, U8 x) (hn2 : n ≤ 140737488351232) (hcap : n ≤ cap) (hR : getS L = (R, E)) :
    Calls Try.prog 15 #[.slice A n cap] w (GetBack R E w) := by
  by_cases h0 : n = 0
  · subst h0
    have : getS L = (zeroR, 1) := by unfold getS; rw [if_pos hln]
    rw [this] at hR
    cases hR
    exact get_empty A cap w
  · obtain ⟨b, off, rfl, _, _⟩ := hA (by omega)
    by_cases hk : Within (L.getD 0 0) 1 6
    · exact get_walk b off n cap L R E w hln hA hL (by omega) hn2 hcap hk hR
    · have : getS L = (zeroR, 28) := by unfold getS; rw [if_neg (by omega)]; dsimp only; rw [if_pos hk]
      rw [this] at hR
      cases hR
      exact get_kind b off n cap L w hln hA hL (by omega) hn2 hcap hk
end Go.Proofs.Ytognidoohinipaa
