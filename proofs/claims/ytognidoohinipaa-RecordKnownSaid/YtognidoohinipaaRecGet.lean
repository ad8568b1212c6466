/-
  What is proved here: Get of package record (chapter 11). Conditions: bytes are bytes.
-/
import Derived.Test.YtognidoohinipaaRecNum
import Derived.Deep.CutBlock
import Derived.RegionTactic
import Derived.BigRegion
namespace Go.Proofs.Ytognidoohinipaa
open Go.RowKit Go.Deep Go.Joins Go.WideShapes

/-- where Get stands: what is left to be read, whether bytes lacked, the record so far; the result's cell. -/
structure GSt (w0 w : World) (B : Nat) (M : List Int) (s : Bool) (r : Rec) : Prop where
  rest : Rest w B (B + 1) M
  short : Blk w (B + 2) 4 #[.bool s]
  rcd : Blk w (B + 3) 23 r.cells
  res : Blk w B 23 zeroR.cells
  below : Below B w0 w
  u8 : ∀ x ∈ M, U8 x
  len : M.length ≤ 140737488351232
def GetBack (r : Rec) (n : Int) (w : World) (e : Ending) (w' : World) : Prop :=
  e = .returned (.tuple #[.agg r.cells, .int .i64 n]) ∧ Below w.heap.size w w'
theorem noG_size : noG.size ≤ 9223372036854775807 := by decide
theorem GSt.drew {w0 w : World} {B : Nat} {M : List Int} {s : Bool} {r : Rec} (h : GSt w0 w B M s r) (n : Nat) : GSt w0 (w.drewN n) B M s r :=
  ⟨h.rest, h.short, h.rcd, h.res, below_drewN h.below n, h.u8, h.len⟩
theorem GSt.drew1 {w0 w : World} {B : Nat} {M : List Int} {s : Bool} {r : Rec} (h : GSt w0 w B M s r) : GSt w0 w.drew B M s r :=
  ⟨h.rest, h.short, h.rcd, h.res, h.below.drew, h.u8, h.len⟩
theorem GSt.adv {w0 w : World} {B : Nat} {M : List Int} {s : Bool} {r : Rec} (h : GSt w0 w B M s r) {b o c m : Nat} {M' : List Int} (hM : ∀ x ∈ M', U8 x) (hm : M'.length = m) (hl : m ≤ 140737488351232) (hle : m ≤ c)
    (hc : 0 < m → b < B ∧ ∀ i, i < m → w.cell? ⟨b, o + i, none⟩ = some (.int .u8 (M'.getD i 0))) : GSt w0 (w.setCell ⟨B + 1, 0, none⟩ (.slice (some ⟨b, o, none⟩) m c)) B M' s r := by
  subst hm
  obtain ⟨b', o', c', hb, _, _⟩ := h.rest
  refine ⟨⟨b, o, c, hb.set_ 0 _, hle, fun hp => ?_⟩, h.short.far (p := ⟨B + 1, 0, none⟩) (by show B + 2 ≠ B + 1; omega) _, h.rcd.far (p := ⟨B + 1, 0, none⟩) (by show B + 3 ≠ B + 1; omega) _, h.res.far (p := ⟨B + 1, 0, none⟩) (by show B ≠ B + 1; omega) _, h.below.setCell (by show B ≤ B + 1; omega) _, hM, hl⟩
  obtain ⟨hlt, hcc⟩ := hc hp
  exact ⟨hlt, fun i hi => (World.cell?_of_block (a := ⟨b, o + i, none⟩) (Below.heap_setCell w ⟨B + 1, 0, none⟩ _ b (by show b ≠ B + 1; omega))).trans (hcc i hi)⟩
theorem Rec.cells_k (k t : Int) (g : ByteArray) (v i : Int) : (Rec.mk k t g v i).cells = #[.int .i64 k, .int .i64 t, .string g, .int .i64 v, .int .i64 i] := rfl

theorem start3 (w : World) (c0 c1 c2 : Array Value) (T0 T1 T2 : TypeId) :
    Blk (((w.alloc (.cells c0 T0)).alloc (.cells c1 T1)).alloc (.cells c2 T2)) w.heap.size T0 c0 ∧ Blk (((w.alloc (.cells c0 T0)).alloc (.cells c1 T1)).alloc (.cells c2 T2)) (w.heap.size + 1) T1 c1 ∧
    Blk (((w.alloc (.cells c0 T0)).alloc (.cells c1 T1)).alloc (.cells c2 T2)) (w.heap.size + 2) T2 c2 ∧ Below w.heap.size w (((w.alloc (.cells c0 T0)).alloc (.cells c1 T1)).alloc (.cells c2 T2)) ∧
    (((w.alloc (.cells c0 T0)).alloc (.cells c1 T1)).alloc (.cells c2 T2)).heap.size = w.heap.size + 3 := by
  have h1 := Blk.new (w.alloc (.cells c0 T0)) T1 c1
  have h2 := Blk.new ((w.alloc (.cells c0 T0)).alloc (.cells c1 T1)) T2 c2
  rw [World.size_alloc] at h1 h2
  rw [World.size_alloc] at h2
  refine ⟨((Blk.new w T0 c0).alloc _).alloc _, h1.alloc _, h2, (((Below.refl _ _).alloc (Nat.le_refl _) _).alloc (by simp) _).alloc (by simp; omega) _, by simp⟩

theorem GSt.num {w0 w w' : World} {B : Nat} {M : List Int} {s : Bool} {r : Rec} (h : GSt w0 w B M s r) (ho : Only2 w w' (B + 1) (B + 2)) (hr : Rest w' B (B + 1) (numL M s).2.1) (hs : Blk w' (B + 2) 4 #[.bool (numL M s).2.2]) : GSt w0 w' B (numL M s).2.1 (numL M s).2.2 r := by
  refine ⟨hr, hs, ho.blk h.rcd (by omega) (by omega), ho.blk h.res (by omega) (by omega), ho.below h.below (by omega) (by omega), fun x hx => ?_, ?_⟩
  · unfold numL at hx
    split at hx
    · exact h.u8 x hx
    · exact h.u8 x (List.mem_of_mem_drop hx)
  · have := h.len
    unfold numL
    split
    · exact this
    · show (M.drop 8).length ≤ _
      rw [List.length_drop]; omega
theorem GSt.put {w0 w : World} {B : Nat} {M : List Int} {s : Bool} {r : Rec} (h : GSt w0 w B M s r) (j : Nat) (u : Value) (r' : Rec) (e : r'.cells = r.cells.setIfInBounds j u) : GSt w0 (w.setCell ⟨B + 3, j, none⟩ u) B M s r' :=
  ⟨h.rest.far (by omega) (by omega) j u, h.short.far (p := ⟨B + 3, j, none⟩) (by show B + 2 ≠ B + 3; omega) u, by rw [e]; exact h.rcd.set_ j u, h.res.far (p := ⟨B + 3, j, none⟩) (by show B ≠ B + 3; omega) u, h.below.setCell (by show B ≤ B + 3; omega) u, h.u8, h.len⟩

theorem getS_of {L : List Int} {k t1 : Int} {M1 : List Int} {s1 : Bool} (h0 : 1 ≤ L.length) (hk : k = L.getD 0 0) (hw : Within k 1 6) (hn : numL (L.drop 1) false = (t1, M1, s1)) : getS L =
    if k = 1 ∨ k = 2 then
      if tagL M1 = true then (zeroR, 1) else
      let b := numL (M1.drop (1 + (M1.getD 0 0).toNat)) s1
      finL b.2.1 b.2.2 ⟨k, t1, mkG ((M1.drop 1).take (M1.getD 0 0).toNat), b.1, 0⟩
    else if k = 5 then
      let b := numL M1 s1
      finL b.2.1 b.2.2 ⟨k, t1, noG, 0, b.1⟩
    else if k = 6 then
      let b := numL M1 s1
      let c := numL b.2.1 b.2.2
      finL c.2.1 c.2.2 ⟨k, t1, noG, c.1, b.1⟩
    else
      let b := numL M1 s1
      finL b.2.1 b.2.2 ⟨k, t1, noG, b.1, 0⟩ := by
  unfold getS
  rw [if_neg (by omega)]
  rw [← hk]
  dsimp only
  rw [if_neg (fun h => h hw), hn]

set_option maxRecDepth 100000 in
set_option maxHeartbeats 2000000 in
theorem get_walk (b off n cap : Nat) (L : List Int) (R : Rec) (E : Int) (w : World) (hln : L.length = n) (hA : IntsAt .u8 w (some ⟨b, off, none⟩) L) (hL : ∀ x ∈ L, U8 x) (hn : 1 ≤ n) (hn2 : n ≤ 140737488351232) (hcap : n ≤ cap) (hk : Within (L.getD 0 0) 1 6) (hR : getS L = (R, E)) :
    Calls Try.prog 15 #[.slice (some ⟨b, off, none⟩) n cap] w (GetBack R E w) := by
  obtain ⟨b', off', e', hbb, hcell⟩ := hA (by omega)
  cases e'
  have h0 := hcell 0 (by omega)
  rw [Nat.add_zero] at h0
  obtain ⟨a0, b0⟩ := getD_u8 hL 0
  have HL := Lib.hid hL
  have HN := Lib.hid hln
  have HC := Lib.hid hcell
  have HR := Lib.hid hR
  have HK := Lib.hid hk
  obtain ⟨k, hkk⟩ : ∃ k, k = L.getD 0 0 := ⟨_, rfl⟩
  have HKK := Lib.hid hkk
  rw [← hkk] at h0 a0 b0 HK
  have dk := decide_eq_true HK.out
  obtain ⟨B, hB⟩ : ∃ B, B = w.heap.size := ⟨_, rfl⟩
  have HB := Lib.hid hB
  clear hA hcell hL hln hkk hk hR hB
  have k0 : 0 < n := by omega
  have n1 : (1 : Int) ≤ (n : Int) := by omega
  have nz : ((n : Int) == 0) = false := by rw [beq_eq_false_iff_ne]; omega
  have HD := Lib.hid (show (L.drop 1).length = n - 1 by rw [List.length_drop, HN.out])
  go_enter Try.func15, Try.ntmps15
  go_upto_region 3 with fail
  go_cut [4, 5] (fun s4 s5 wx => s4 = .pointer (some ⟨w.heap.size + 1, 0, none⟩) ∧ s5 = .pointer (some ⟨w.heap.size + 2, 0, none⟩) ∧ Rest wx w.heap.size (w.heap.size + 1) (L.drop 1) ∧ Blk wx (w.heap.size + 2) 4 #[.bool false] ∧ Blk wx w.heap.size 23 zeroR.cells ∧ Below w.heap.size w wx ∧ wx.heap.size = w.heap.size + 3)
  case first =>
    by_cases hc1 : cap = 1
    · have hc2 : cap ≤ 1 := by omega
      have n1' : n = 1 := by omega
      subst hc1 n1'
      have HS := Lib.hid (start3 w #[.int .i64 0, .int .i64 0, .string { data := #[] }, .int .i64 0, .int .i64 0] #[.slice (some ⟨b, off, none⟩) 0 0] #[.bool false] 23 24 4)
      go_wp2
      go_meet
      obtain ⟨s1, s2, s3, s4, s5⟩ := HS.out
      exact ⟨rfl, rfl, ⟨b, off, 0, by rw [HD.out]; exact s2, by rw [HD.out]; omega, fun hp => absurd hp (by rw [HD.out]; omega)⟩, s3, s1, s4, s5⟩
    · have HS := Lib.hid (start3 w #[.int .i64 0, .int .i64 0, .string { data := #[] }, .int .i64 0, .int .i64 0] #[.slice (some ⟨b, off + 1, none⟩) (n - 1) (cap - 1)] #[.bool false] 23 24 4)
      go_wp2
      go_meet
      obtain ⟨s1, s2, s3, s4, s5⟩ := HS.out
      refine ⟨rfl, rfl, ⟨b, off + 1, cap - 1, by rw [HD.out]; exact s2, by rw [HD.out]; omega, fun hp => ⟨hbb, fun i hi => ?_⟩⟩, s3, s1, s4, s5⟩
      rw [HD.out] at hi
      rw [getD_drop, Nat.add_assoc]
      exact (s4.cell (p := ⟨b, off + (1 + i), none⟩) hbb).trans (HC.out (1 + i) (by rw [HN.out]; omega))
  case rest =>
  obtain ⟨rfl, rfl, hrest, hshort, hres, hbel, hsz⟩ := hcut
  obtain ⟨w1, rfl⟩ : ∃ wq : World, wq = wc := ⟨_, rfl⟩
  have h1 := (hbel.cell (p := ⟨b, off, none⟩) hbb).trans h0
  have hbl : b < w1.heap.size := by omega
  have HRE := Lib.hid hrest
  have HSH := Lib.hid hshort
  have HRS := Lib.hid hres
  have HBE := Lib.hid hbel
  have HSZ := Lib.hid hsz
  clear hrest hshort hres hbel hsz h0
  go_upto_region 5 with fail
  go_cut [7] (fun s7 wx => s7 = .pointer (some ⟨w.heap.size + 3, 0, none⟩) ∧ GSt w wx w.heap.size (L.drop 1) false ⟨k, 0, noG, 0, 0⟩)
  case first =>
    have hb1 := Blk.new w1 23 #[.int .i64 k, .int .i64 0, .string { data := #[] }, .int .i64 0, .int .i64 0]
    have HB1 := Lib.hid hb1
    clear hb1
    go_wp2
    go_meet
    refine ⟨by rw [HSZ.out], ⟨HRE.out.below ((Below.refl _ _).alloc (Nat.le_refl _) _) (by omega), HSH.out.alloc _, ?_, HRS.out.alloc _, HBE.out.alloc (by have := HSZ.out; omega) _, fun x hx => HL.out x (List.mem_of_mem_drop hx), by rw [HD.out]; omega⟩⟩
    have := HB1.out
    rw [HSZ.out] at this
    exact this
  case rest =>
  obtain ⟨rfl, hst⟩ := hcut
  have HST := Lib.hid hst
  clear h1 hbl HRE HSH HRS HBE HSZ hst
  have bl := HST.out.below.size
  have r0 : wc.cell? ⟨w.heap.size + 3, 0, none⟩ = some (.int .i64 k) := HST.out.rcd.cell 0
  have rl := HST.out.rcd.lt
  go_wp2_with fail
  refine (within_any _ _ _ _).mono ?_
  rintro e wq ⟨rfl, rfl⟩
  go_upto_region 8 with fail
  obtain ⟨⟨t1, M1, s1⟩, hnum⟩ : ∃ p, p = numL (L.drop 1) false := ⟨_, rfl⟩
  have HNU := Lib.hid hnum.symm
  clear hnum r0 rl dk
  go_cut [] (fun wx => GSt w wx w.heap.size M1 s1 ⟨k, t1, noG, 0, 0⟩)
  case first =>
    go_wp2_with fail
    refine (num_any w.heap.size (w.heap.size + 1) (w.heap.size + 2) (L.drop 1) false _ HST.out.rest HST.out.short (by omega) (by omega) (by omega) HST.out.u8 HST.out.len).mono ?_
    rintro e w2 ⟨rfl, hr2, hs2, ho2⟩
    have hst2 := HST.out.num ho2 hr2 hs2
    rw [HNU.out] at hst2 ⊢
    have HS2 := Lib.hid hst2
    have c1 : w2.cell? ⟨w.heap.size + 3, 1, none⟩ = some (.int .i64 0) := hst2.rcd.cell 1
    have f1 := hst2.rcd.frozen 1
    have rl := hst2.rcd.lt
    clear hr2 hs2 ho2 hst2
    go_wp2_with fail
    go_meet
    exact HS2.out.put 1 (.int .i64 t1) _ rfl
  case rest =>
  have HST2 := Lib.hid hcut
  clear hcut HST
  obtain ⟨w2, rfl⟩ : ∃ wq : World, wq = wc := ⟨_, rfl⟩
  have r0 : w2.cell? ⟨w.heap.size + 3, 0, none⟩ = some (.int .i64 k) := HST2.out.rcd.cell 0
  have rl := HST2.out.rcd.lt
  have bl2 := HST2.out.below.size
  go_upto_block 0 with fail
  go_cut [] (fun wx => ∃ M s r', GSt w wx w.heap.size M s r' ∧ r'.g.size ≤ 9223372036854775807 ∧ finL M s r' = (R, E))
  case first =>
    have HGS := Lib.hid (getS_of (by rw [HN.out]; exact hn) HKK.out HK.out HNU.out)
    have h6 : k = 1 ∨ k = 2 ∨ (k = 3 ∨ k = 4) ∨ k = 5 ∨ k = 6 := by have := HK.out; unfold Within at this; omega
    rcases h6 with hk1 | hk1 | hk1 | hk1 | hk1
    · subst hk1
      have HGT := Lib.hid HGS.out
      obtain ⟨bM, oM, cM, hbM, hlM, hcM⟩ := HST2.out.rest
      obtain ⟨m, hm⟩ : ∃ m, m = M1.length := ⟨_, rfl⟩
      have HMM := Lib.hid hm.symm
      have HCM := Lib.hid hcM
      rw [← hm] at hbM hlM
      have m0 : w2.cell? ⟨w.heap.size + 1, 0, none⟩ = some (.slice (some ⟨bM, oM, none⟩) m cM) := hbM.cell 0
      have ml := hbM.lt
      have hml : m ≤ 140737488351232 := by rw [hm]; exact HST2.out.len
      obtain ⟨y, hy⟩ : ∃ y, y = M1.getD 0 0 := ⟨_, rfl⟩
      have HY := Lib.hid hy.symm
      obtain ⟨y1, y2⟩ := getD_u8 HST2.out.u8 0
      rw [← hy] at y1 y2
      have HTG := Lib.hid (show tagL M1 = decide (m = 0 ∨ (m : Int) < 1 + y) by unfold tagL; rw [hm, hy])
      clear hm hy hbM hcM r0 rl
      go_upto_region 13 with fail
      go_cut [50] (fun s50 wx => s50 = .bool (tagL M1) ∧ GSt w wx w.heap.size M1 s1 ⟨1, t1, noG, 0, 0⟩)
      case first =>
        by_cases hm0 : m = 0
        · have HB := Lib.hid (show tagL M1 = true by rw [HTG.out]; exact decide_eq_true (.inl hm0))
          subst hm0
          go_quiet (fail)
          go_wp2_with fail
          go_meet
          exact ⟨by rw [HB.out], HST2.out.drew _⟩
        · obtain ⟨hlt, hcc⟩ := HCM.out (by rw [HMM.out]; omega)
          have d0 := hcc 0 (by rw [HMM.out]; omega)
          rw [HY.out, Nat.add_zero] at d0
          have hbl : bM < w2.heap.size := by omega
          have e0 : ((m : Int) == 0) = false := by rw [beq_eq_false_iff_ne]; omega
          have e1 : IntKind.i64.wrap (1 + y) = 1 + y := IntWalk.i64_in _ ⟨by omega, by omega⟩
          have k0' : (0 : Int) < (m : Int) := by omega
          have k1' : 0 < m := by omega
          have HB := Lib.hid (show tagL M1 = decide ((m : Int) < 1 + y) by rw [HTG.out, decide_eq_decide]; omega)
          clear hcc
          go_quiet (fail)
          go_wp2_with fail
          go_meet
          exact ⟨by rw [HB.out], HST2.out.drew _⟩
      case rest =>
      obtain ⟨rfl, hst⟩ := hcut
      obtain ⟨w3, rfl⟩ : ∃ wq : World, wq = wc := ⟨_, rfl⟩
      have HST3 := Lib.hid hst
      clear hst m0 ml HCM hlM
      obtain ⟨tl, htl⟩ : ∃ b, b = tagL M1 := ⟨_, rfl⟩
      have HTL := Lib.hid htl.symm
      rw [← htl] at HTG ⊢
      clear htl
      cases tl
      · have hmy : ¬ (m = 0 ∨ (m : Int) < 1 + y) := of_decide_eq_false HTG.out.symm
        obtain ⟨z, rfl⟩ : ∃ z : Nat, y = (z : Int) := ⟨y.toNat, by omega⟩
        have hm1 : 1 + z ≤ m := by omega
        have hfin := HR.out
        rw [HGT.out, HTL.out, HY.out] at hfin
        obtain ⟨⟨x, M2, s2⟩, hnu⟩ : ∃ p, p = numL (M1.drop (1 + z)) s1 := ⟨_, rfl⟩
        have HN2 := Lib.hid hnu.symm
        obtain ⟨g, hg⟩ : ∃ g, g = mkG ((M1.drop 1).take z) := ⟨_, rfl⟩
        have HG := Lib.hid hg
        have hgs : g.size ≤ 9223372036854775807 := by rw [hg]; unfold mkG; rw [strOfNums_size, List.length_take]; omega
        rw [Int.toNat_natCast, ← hg, ← hnu] at hfin
        simp at hfin
        have HF := Lib.hid hfin
        clear hnu hfin hmy HR HGS HGT HTG HTL hg
        obtain ⟨bN, oN, cN, hbN, hlN, hcN⟩ := HST3.out.rest
        rw [HMM.out] at hbN hlN
        obtain ⟨hlt, hcc⟩ := hcN (by rw [HMM.out]; omega)
        have HBN := Lib.hid hbN
        have HCC := Lib.hid hcc
        have m0 : w3.cell? ⟨w.heap.size + 1, 0, none⟩ = some (.slice (some ⟨bN, oN, none⟩) m cN) := hbN.cell 0
        have ml := hbN.lt
        have mf := hbN.frozen 0
        have d0 := hcc 0 (by rw [HMM.out]; omega)
        rw [HY.out, Nat.add_zero] at d0
        have hbl : bN < w3.heap.size := by have := HST3.out.below.size; omega
        have k0' : (0 : Int) < (m : Int) := by omega
        have k1' : 0 < m := by omega
        have r2 : w3.cell? ⟨w.heap.size + 3, 2, none⟩ = some (.string noG) := HST3.out.rcd.cell 2
        have rf := HST3.out.rcd.frozen 2
        have rl := HST3.out.rcd.lt
        clear hbN hcc hcN
        go_upto_region 16 with fail
        clear d0 k0' k1'
        go_cut [] (fun wx => GSt w wx w.heap.size (M1.drop (1 + z)) s1 ⟨1, t1, g, 0, 0⟩)
        case first =>
          have z0 : (0 : Int) ≤ 1 + (z : Int) := by omega
          have z1 : (1 : Int) ≤ 1 + (z : Int) := by omega
          have z2 : 1 + (z : Int) ≤ (cN : Int) := by omega
          have z3 : 1 + (z : Int) ≤ (m : Int) := by omega
          have HW := Lib.hid (fun (W : World) (o : Nat) (c : Nat) (hW : W.heap[bN]? = w3.heap[bN]?) (ho : o = oN + 1 ∨ z = 0) => show (convert 24 9 (.slice (some ⟨bN, o, none⟩) z c)).run Try.prog W = .ok (.string g) W from by
            rw [HG.out]
            refine run_convert_bytes_arg (P := Try.prog) W _ 5 Try.underlying24 Try.underlying5 bN o z c ((M1.drop 1).take z) (by rw [List.length_take, List.length_drop, HMM.out]; omega) (fun i hi => ?_) _ Try.underlying9
            have ho2 : o = oN + 1 := by omega
            rw [World.cell?_of_block (a := ⟨bN, o + i, none⟩) hW, ho2, Nat.add_assoc, HCC.out (1 + i) (by rw [HMM.out]; omega), ← getD_drop, List.getD_eq_getElem?_getD, List.getD_eq_getElem?_getD, List.getElem?_take, if_pos hi])
          have HDL := Lib.hid (show (M1.drop (1 + z)).length = m - (1 + z) by rw [List.length_drop, HMM.out])
          by_cases hc1 : cN = 1
          · have z00 : z ≤ 0 := by omega
            have c11 : cN ≤ 1 := by omega
            have c12 : (cN : Int) ≤ 1 := by omega
            have c13 : cN ≤ 1 + z := by omega
            have c14 : (cN : Int) ≤ 1 + (z : Int) := by omega
            have hv := fun c => HW.out w3.drew oN c rfl (.inr (by omega))
            clear hc1
            go_region
            all_goals
              go_wp2_with fail
              go_meet
              exact ((HST3.out.put 2 (.string g) ⟨_, t1, g, 0, 0⟩ rfl).adv (fun q hq => HST3.out.u8 q (List.mem_of_mem_drop hq)) HDL.out (by omega) (by omega) (fun hp => absurd hp (by omega))).drew1
          · by_cases hc2 : cN = 1 + z
            · have hv := HW.out w3.drew (oN + 1) (cN - 1) rfl (.inl rfl)
              have c13 : cN ≤ 1 + z := by omega
              have c14 : (cN : Int) ≤ 1 + (z : Int) := by omega
              clear hc2
              go_region
              all_goals
                go_wp2_with fail
                go_meet
                exact ((HST3.out.put 2 (.string g) ⟨_, t1, g, 0, 0⟩ rfl).adv (fun q hq => HST3.out.u8 q (List.mem_of_mem_drop hq)) HDL.out (by omega) (by omega) (fun hp => absurd hp (by omega))).drew1
            · have hv := HW.out w3.drew (oN + 1) (cN - 1) rfl (.inl rfl)
              go_region
              all_goals
                go_wp2_with fail
                go_meet
                refine ((HST3.out.put 2 (.string g) ⟨_, t1, g, 0, 0⟩ rfl).adv (fun q hq => HST3.out.u8 q (List.mem_of_mem_drop hq)) HDL.out (by omega) (by omega) (fun hp => ⟨by omega, fun i hi => ?_⟩)).drew1
                rw [getD_drop]
                exact (World.cell?_of_block (a := ⟨bN, _, none⟩) (Below.heap_setCell w3 ⟨w.heap.size + 3, 2, none⟩ _ bN (by show bN ≠ w.heap.size + 3; omega))).trans (by rw [Nat.add_assoc]; exact HCC.out _ (by rw [HMM.out]; omega))
        case rest =>
        obtain ⟨w4, rfl⟩ : ∃ wq : World, wq = wc := ⟨_, rfl⟩
        have HST4 := Lib.hid hcut
        clear hcut m0 ml mf r2 rf rl hbl
        go_wp2_with fail
        refine (num_any w.heap.size (w.heap.size + 1) (w.heap.size + 2) (M1.drop (1 + z)) s1 _ HST4.out.rest HST4.out.short (by omega) (by omega) (by omega) HST4.out.u8 HST4.out.len).mono ?_
        rintro e w5 ⟨rfl, hr2, hs2, ho2⟩
        have hst2 := HST4.out.num ho2 hr2 hs2
        rw [HN2.out] at hst2 ⊢
        have HS5 := Lib.hid hst2
        have c1 : w5.cell? ⟨w.heap.size + 3, 3, none⟩ = some (.int .i64 0) := hst2.rcd.cell 3
        have f1 := hst2.rcd.frozen 3
        have rl := hst2.rcd.lt
        clear hr2 hs2 ho2 hst2
        go_wp2_with fail
        go_meet
        exact ⟨M2, s2, ⟨1, t1, g, x, 0⟩, HS5.out.put 3 (.int .i64 x) _ rfl, hgs, HF.out⟩
      · have hfin := HR.out
        rw [HGT.out, HTL.out] at hfin
        simp at hfin
        obtain ⟨hf3, hf4⟩ := hfin
        subst hf3 hf4
        have q0 : w3.cell? ⟨w.heap.size, 0, none⟩ = some (.int .i64 0) := HST3.out.res.cell 0
        have q1 : w3.cell? ⟨w.heap.size, 1, none⟩ = some (.int .i64 0) := HST3.out.res.cell 1
        have q2 : w3.cell? ⟨w.heap.size, 2, none⟩ = some (.string noG) := HST3.out.res.cell 2
        have q3 : w3.cell? ⟨w.heap.size, 3, none⟩ = some (.int .i64 0) := HST3.out.res.cell 3
        have q4 : w3.cell? ⟨w.heap.size, 4, none⟩ = some (.int .i64 0) := HST3.out.res.cell 4
        have p0 := HST3.out.res.frozen 0
        have p1 := HST3.out.res.frozen 1
        have p2 := HST3.out.res.frozen 2
        have p3 := HST3.out.res.frozen 3
        have p4 := HST3.out.res.frozen 4
        have ql := HST3.out.res.lt
        have HB := Lib.hid HST3.out.below
        clear HR HGS HGT
        go_wp2_with fail
        refine bodyPost_ret (v := .tuple #[.agg zeroR.cells, .int .i64 1]) ?_ rfl ⟨rfl, by have := HB.out; (repeat (first | (with_reducible assumption) | (with_reducible exact Below.refl _ _) | ((with_reducible refine Below.setCell ?_ ?_ _); rotate_left; · (first | omega | (simp; done) | (simp; omega) | (simp at *; omega))) | ((with_reducible refine Below.alloc ?_ ?_ _); rotate_left; · (first | omega | (simp; done) | (simp; omega) | (simp at *; omega))) | (with_reducible refine Below.drew ?_) | (with_reducible refine below_drewN ?_ _) | ((refine Below.trans ?_ (Below.mono (by with_reducible assumption) ?_)); rotate_left; · (first | omega | (simp; done) | (simp; omega) | (simp at *; omega)))))⟩
        simp [results, Try.results15, go_sem, q0, q1, q2, q3, q4]
        rfl
    · subst hk1
      have HGT := Lib.hid HGS.out
      obtain ⟨bM, oM, cM, hbM, hlM, hcM⟩ := HST2.out.rest
      obtain ⟨m, hm⟩ : ∃ m, m = M1.length := ⟨_, rfl⟩
      have HMM := Lib.hid hm.symm
      have HCM := Lib.hid hcM
      rw [← hm] at hbM hlM
      have m0 : w2.cell? ⟨w.heap.size + 1, 0, none⟩ = some (.slice (some ⟨bM, oM, none⟩) m cM) := hbM.cell 0
      have ml := hbM.lt
      have hml : m ≤ 140737488351232 := by rw [hm]; exact HST2.out.len
      obtain ⟨y, hy⟩ : ∃ y, y = M1.getD 0 0 := ⟨_, rfl⟩
      have HY := Lib.hid hy.symm
      obtain ⟨y1, y2⟩ := getD_u8 HST2.out.u8 0
      rw [← hy] at y1 y2
      have HTG := Lib.hid (show tagL M1 = decide (m = 0 ∨ (m : Int) < 1 + y) by unfold tagL; rw [hm, hy])
      clear hm hy hbM hcM r0 rl
      go_upto_region 13 with fail
      go_cut [50] (fun s50 wx => s50 = .bool (tagL M1) ∧ GSt w wx w.heap.size M1 s1 ⟨2, t1, noG, 0, 0⟩)
      case first =>
        by_cases hm0 : m = 0
        · have HB := Lib.hid (show tagL M1 = true by rw [HTG.out]; exact decide_eq_true (.inl hm0))
          subst hm0
          go_quiet (fail)
          go_wp2_with fail
          go_meet
          exact ⟨by rw [HB.out], HST2.out.drew _⟩
        · obtain ⟨hlt, hcc⟩ := HCM.out (by rw [HMM.out]; omega)
          have d0 := hcc 0 (by rw [HMM.out]; omega)
          rw [HY.out, Nat.add_zero] at d0
          have hbl : bM < w2.heap.size := by omega
          have e0 : ((m : Int) == 0) = false := by rw [beq_eq_false_iff_ne]; omega
          have e1 : IntKind.i64.wrap (1 + y) = 1 + y := IntWalk.i64_in _ ⟨by omega, by omega⟩
          have k0' : (0 : Int) < (m : Int) := by omega
          have k1' : 0 < m := by omega
          have HB := Lib.hid (show tagL M1 = decide ((m : Int) < 1 + y) by rw [HTG.out, decide_eq_decide]; omega)
          clear hcc
          go_quiet (fail)
          go_wp2_with fail
          go_meet
          exact ⟨by rw [HB.out], HST2.out.drew _⟩
      case rest =>
      obtain ⟨rfl, hst⟩ := hcut
      obtain ⟨w3, rfl⟩ : ∃ wq : World, wq = wc := ⟨_, rfl⟩
      have HST3 := Lib.hid hst
      clear hst m0 ml HCM hlM
      obtain ⟨tl, htl⟩ : ∃ b, b = tagL M1 := ⟨_, rfl⟩
      have HTL := Lib.hid htl.symm
      rw [← htl] at HTG ⊢
      clear htl
      cases tl
      · have hmy : ¬ (m = 0 ∨ (m : Int) < 1 + y) := of_decide_eq_false HTG.out.symm
        obtain ⟨z, rfl⟩ : ∃ z : Nat, y = (z : Int) := ⟨y.toNat, by omega⟩
        have hm1 : 1 + z ≤ m := by omega
        have hfin := HR.out
        rw [HGT.out, HTL.out, HY.out] at hfin
        obtain ⟨⟨x, M2, s2⟩, hnu⟩ : ∃ p, p = numL (M1.drop (1 + z)) s1 := ⟨_, rfl⟩
        have HN2 := Lib.hid hnu.symm
        obtain ⟨g, hg⟩ : ∃ g, g = mkG ((M1.drop 1).take z) := ⟨_, rfl⟩
        have HG := Lib.hid hg
        have hgs : g.size ≤ 9223372036854775807 := by rw [hg]; unfold mkG; rw [strOfNums_size, List.length_take]; omega
        rw [Int.toNat_natCast, ← hg, ← hnu] at hfin
        simp at hfin
        have HF := Lib.hid hfin
        clear hnu hfin hmy HR HGS HGT HTG HTL hg
        obtain ⟨bN, oN, cN, hbN, hlN, hcN⟩ := HST3.out.rest
        rw [HMM.out] at hbN hlN
        obtain ⟨hlt, hcc⟩ := hcN (by rw [HMM.out]; omega)
        have HBN := Lib.hid hbN
        have HCC := Lib.hid hcc
        have m0 : w3.cell? ⟨w.heap.size + 1, 0, none⟩ = some (.slice (some ⟨bN, oN, none⟩) m cN) := hbN.cell 0
        have ml := hbN.lt
        have mf := hbN.frozen 0
        have d0 := hcc 0 (by rw [HMM.out]; omega)
        rw [HY.out, Nat.add_zero] at d0
        have hbl : bN < w3.heap.size := by have := HST3.out.below.size; omega
        have k0' : (0 : Int) < (m : Int) := by omega
        have k1' : 0 < m := by omega
        have r2 : w3.cell? ⟨w.heap.size + 3, 2, none⟩ = some (.string noG) := HST3.out.rcd.cell 2
        have rf := HST3.out.rcd.frozen 2
        have rl := HST3.out.rcd.lt
        clear hbN hcc hcN
        go_upto_region 16 with fail
        clear d0 k0' k1'
        go_cut [] (fun wx => GSt w wx w.heap.size (M1.drop (1 + z)) s1 ⟨2, t1, g, 0, 0⟩)
        case first =>
          have z0 : (0 : Int) ≤ 1 + (z : Int) := by omega
          have z1 : (1 : Int) ≤ 1 + (z : Int) := by omega
          have z2 : 1 + (z : Int) ≤ (cN : Int) := by omega
          have z3 : 1 + (z : Int) ≤ (m : Int) := by omega
          have HW := Lib.hid (fun (W : World) (o : Nat) (c : Nat) (hW : W.heap[bN]? = w3.heap[bN]?) (ho : o = oN + 1 ∨ z = 0) => show (convert 24 9 (.slice (some ⟨bN, o, none⟩) z c)).run Try.prog W = .ok (.string g) W from by
            rw [HG.out]
            refine run_convert_bytes_arg (P := Try.prog) W _ 5 Try.underlying24 Try.underlying5 bN o z c ((M1.drop 1).take z) (by rw [List.length_take, List.length_drop, HMM.out]; omega) (fun i hi => ?_) _ Try.underlying9
            have ho2 : o = oN + 1 := by omega
            rw [World.cell?_of_block (a := ⟨bN, o + i, none⟩) hW, ho2, Nat.add_assoc, HCC.out (1 + i) (by rw [HMM.out]; omega), ← getD_drop, List.getD_eq_getElem?_getD, List.getD_eq_getElem?_getD, List.getElem?_take, if_pos hi])
          have HDL := Lib.hid (show (M1.drop (1 + z)).length = m - (1 + z) by rw [List.length_drop, HMM.out])
          by_cases hc1 : cN = 1
          · have z00 : z ≤ 0 := by omega
            have c11 : cN ≤ 1 := by omega
            have c12 : (cN : Int) ≤ 1 := by omega
            have c13 : cN ≤ 1 + z := by omega
            have c14 : (cN : Int) ≤ 1 + (z : Int) := by omega
            have hv := fun c => HW.out w3.drew oN c rfl (.inr (by omega))
            clear hc1
            go_region
            all_goals
              go_wp2_with fail
              go_meet
              exact ((HST3.out.put 2 (.string g) ⟨_, t1, g, 0, 0⟩ rfl).adv (fun q hq => HST3.out.u8 q (List.mem_of_mem_drop hq)) HDL.out (by omega) (by omega) (fun hp => absurd hp (by omega))).drew1
          · by_cases hc2 : cN = 1 + z
            · have hv := HW.out w3.drew (oN + 1) (cN - 1) rfl (.inl rfl)
              have c13 : cN ≤ 1 + z := by omega
              have c14 : (cN : Int) ≤ 1 + (z : Int) := by omega
              clear hc2
              go_region
              all_goals
                go_wp2_with fail
                go_meet
                exact ((HST3.out.put 2 (.string g) ⟨_, t1, g, 0, 0⟩ rfl).adv (fun q hq => HST3.out.u8 q (List.mem_of_mem_drop hq)) HDL.out (by omega) (by omega) (fun hp => absurd hp (by omega))).drew1
            · have hv := HW.out w3.drew (oN + 1) (cN - 1) rfl (.inl rfl)
              go_region
              all_goals
                go_wp2_with fail
                go_meet
                refine ((HST3.out.put 2 (.string g) ⟨_, t1, g, 0, 0⟩ rfl).adv (fun q hq => HST3.out.u8 q (List.mem_of_mem_drop hq)) HDL.out (by omega) (by omega) (fun hp => ⟨by omega, fun i hi => ?_⟩)).drew1
                rw [getD_drop]
                exact (World.cell?_of_block (a := ⟨bN, _, none⟩) (Below.heap_setCell w3 ⟨w.heap.size + 3, 2, none⟩ _ bN (by show bN ≠ w.heap.size + 3; omega))).trans (by rw [Nat.add_assoc]; exact HCC.out _ (by rw [HMM.out]; omega))
        case rest =>
        obtain ⟨w4, rfl⟩ : ∃ wq : World, wq = wc := ⟨_, rfl⟩
        have HST4 := Lib.hid hcut
        clear hcut m0 ml mf r2 rf rl hbl
        go_wp2_with fail
        refine (num_any w.heap.size (w.heap.size + 1) (w.heap.size + 2) (M1.drop (1 + z)) s1 _ HST4.out.rest HST4.out.short (by omega) (by omega) (by omega) HST4.out.u8 HST4.out.len).mono ?_
        rintro e w5 ⟨rfl, hr2, hs2, ho2⟩
        have hst2 := HST4.out.num ho2 hr2 hs2
        rw [HN2.out] at hst2 ⊢
        have HS5 := Lib.hid hst2
        have c1 : w5.cell? ⟨w.heap.size + 3, 3, none⟩ = some (.int .i64 0) := hst2.rcd.cell 3
        have f1 := hst2.rcd.frozen 3
        have rl := hst2.rcd.lt
        clear hr2 hs2 ho2 hst2
        go_wp2_with fail
        go_meet
        exact ⟨M2, s2, ⟨2, t1, g, x, 0⟩, HS5.out.put 3 (.int .i64 x) _ rfl, hgs, HF.out⟩
      · have hfin := HR.out
        rw [HGT.out, HTL.out] at hfin
        simp at hfin
        obtain ⟨hf3, hf4⟩ := hfin
        subst hf3 hf4
        have q0 : w3.cell? ⟨w.heap.size, 0, none⟩ = some (.int .i64 0) := HST3.out.res.cell 0
        have q1 : w3.cell? ⟨w.heap.size, 1, none⟩ = some (.int .i64 0) := HST3.out.res.cell 1
        have q2 : w3.cell? ⟨w.heap.size, 2, none⟩ = some (.string noG) := HST3.out.res.cell 2
        have q3 : w3.cell? ⟨w.heap.size, 3, none⟩ = some (.int .i64 0) := HST3.out.res.cell 3
        have q4 : w3.cell? ⟨w.heap.size, 4, none⟩ = some (.int .i64 0) := HST3.out.res.cell 4
        have p0 := HST3.out.res.frozen 0
        have p1 := HST3.out.res.frozen 1
        have p2 := HST3.out.res.frozen 2
        have p3 := HST3.out.res.frozen 3
        have p4 := HST3.out.res.frozen 4
        have ql := HST3.out.res.lt
        have HB := Lib.hid HST3.out.below
        clear HR HGS HGT
        go_wp2_with fail
        refine bodyPost_ret (v := .tuple #[.agg zeroR.cells, .int .i64 1]) ?_ rfl ⟨rfl, by have := HB.out; (repeat (first | (with_reducible assumption) | (with_reducible exact Below.refl _ _) | ((with_reducible refine Below.setCell ?_ ?_ _); rotate_left; · (first | omega | (simp; done) | (simp; omega) | (simp at *; omega))) | ((with_reducible refine Below.alloc ?_ ?_ _); rotate_left; · (first | omega | (simp; done) | (simp; omega) | (simp at *; omega))) | (with_reducible refine Below.drew ?_) | (with_reducible refine below_drewN ?_ _) | ((refine Below.trans ?_ (Below.mono (by with_reducible assumption) ?_)); rotate_left; · (first | omega | (simp; done) | (simp; omega) | (simp at *; omega)))))⟩
        simp [results, Try.results15, go_sem, q0, q1, q2, q3, q4]
        rfl
    · rcases hk1 with hk1 | hk1
      all_goals
        subst hk1
        obtain ⟨⟨x, M2, s2⟩, hnu⟩ : ∃ p, p = numL M1 s1 := ⟨_, rfl⟩
        have HN2 := Lib.hid hnu.symm
        have hfin := HR.out
        rw [HGS.out] at hfin
        simp [hnu.symm] at hfin
        have HF := Lib.hid hfin
        clear hnu hfin r0 rl
        go_wp2_with fail
        refine (num_any w.heap.size (w.heap.size + 1) (w.heap.size + 2) M1 s1 _ HST2.out.rest HST2.out.short (by omega) (by omega) (by omega) HST2.out.u8 HST2.out.len).mono ?_
        rintro e w3 ⟨rfl, hr2, hs2, ho2⟩
        have hst2 := HST2.out.num ho2 hr2 hs2
        rw [HN2.out] at hst2 ⊢
        have HS3 := Lib.hid hst2
        have c1 : w3.cell? ⟨w.heap.size + 3, 3, none⟩ = some (.int .i64 0) := hst2.rcd.cell 3
        have f1 := hst2.rcd.frozen 3
        have rl := hst2.rcd.lt
        clear hr2 hs2 ho2 hst2
        go_wp2_with fail
        go_meet
        exact ⟨M2, s2, ⟨_, t1, noG, x, 0⟩, HS3.out.put 3 (.int .i64 x) _ rfl, noG_size, HF.out⟩
    · subst hk1
      obtain ⟨⟨x, M2, s2⟩, hnu⟩ : ∃ p, p = numL M1 s1 := ⟨_, rfl⟩
      have HN2 := Lib.hid hnu.symm
      have hfin := HR.out
      rw [HGS.out] at hfin
      simp [hnu.symm] at hfin
      have HF := Lib.hid hfin
      clear hnu hfin r0 rl
      go_wp2_with fail
      refine (num_any w.heap.size (w.heap.size + 1) (w.heap.size + 2) M1 s1 _ HST2.out.rest HST2.out.short (by omega) (by omega) (by omega) HST2.out.u8 HST2.out.len).mono ?_
      rintro e w3 ⟨rfl, hr2, hs2, ho2⟩
      have hst2 := HST2.out.num ho2 hr2 hs2
      rw [HN2.out] at hst2 ⊢
      have HS3 := Lib.hid hst2
      have c1 : w3.cell? ⟨w.heap.size + 3, 4, none⟩ = some (.int .i64 0) := hst2.rcd.cell 4
      have f1 := hst2.rcd.frozen 4
      have rl := hst2.rcd.lt
      clear hr2 hs2 ho2 hst2
      go_wp2_with fail
      go_meet
      exact ⟨M2, s2, ⟨5, t1, noG, 0, x⟩, HS3.out.put 4 (.int .i64 x) _ rfl, noG_size, HF.out⟩
    · subst hk1
      obtain ⟨⟨x, M2, s2⟩, hnu⟩ : ∃ p, p = numL M1 s1 := ⟨_, rfl⟩
      have HN2 := Lib.hid hnu.symm
      obtain ⟨⟨y, M3, s3⟩, hnv⟩ : ∃ p, p = numL M2 s2 := ⟨_, rfl⟩
      have HN3 := Lib.hid hnv.symm
      have hfin := HR.out
      rw [HGS.out] at hfin
      simp [hnu.symm, hnv.symm] at hfin
      have HF := Lib.hid hfin
      clear hnu hnv hfin r0 rl
      go_wp2_with fail
      refine (num_any w.heap.size (w.heap.size + 1) (w.heap.size + 2) M1 s1 _ HST2.out.rest HST2.out.short (by omega) (by omega) (by omega) HST2.out.u8 HST2.out.len).mono ?_
      rintro e w3 ⟨rfl, hr2, hs2, ho2⟩
      have hst2 := HST2.out.num ho2 hr2 hs2
      rw [HN2.out] at hst2 ⊢
      have HS3 := Lib.hid hst2
      have c1 : w3.cell? ⟨w.heap.size + 3, 4, none⟩ = some (.int .i64 0) := hst2.rcd.cell 4
      have f1 := hst2.rcd.frozen 4
      have rl := hst2.rcd.lt
      clear hr2 hs2 ho2 hst2
      have HS4 := Lib.hid (HS3.out.put 4 (.int .i64 x) ⟨6, t1, noG, 0, x⟩ rfl)
      go_wp2_with fail
      clear c1 f1 rl
      refine (num_any w.heap.size (w.heap.size + 1) (w.heap.size + 2) M2 s2 _ HS4.out.rest HS4.out.short (by omega) (by omega) (by omega) HS4.out.u8 HS4.out.len).mono ?_
      rintro e w4 ⟨rfl, hr2, hs2, ho2⟩
      have hst2 := HS4.out.num ho2 hr2 hs2
      rw [HN3.out] at hst2 ⊢
      have HS5 := Lib.hid hst2
      have c1 : w4.cell? ⟨w.heap.size + 3, 3, none⟩ = some (.int .i64 0) := hst2.rcd.cell 3
      have f1 := hst2.rcd.frozen 3
      have rl := hst2.rcd.lt
      clear hr2 hs2 ho2 hst2
      go_wp2_with fail
      go_meet
      exact ⟨M3, s3, ⟨6, t1, noG, y, x⟩, HS5.out.put 3 (.int .i64 y) _ rfl, noG_size, HF.out⟩
  case rest =>
  obtain ⟨M, s, r', hst, hg, hfin⟩ := hcut
  obtain ⟨w3, rfl⟩ : ∃ wq : World, wq = wc := ⟨_, rfl⟩
  have HST3 := Lib.hid hst
  have HF := Lib.hid hfin
  have s0 : w3.cell? ⟨w.heap.size + 2, 0, none⟩ = some (.bool s) := HST3.out.short.cell 0
  have sl := HST3.out.short.lt
  clear hst hfin r0 rl bl2 HST2
  cases s
  · obtain ⟨bM, oM, cM, hbM, hlM, _⟩ := HST3.out.rest
    have m0 : w3.cell? ⟨w.heap.size + 1, 0, none⟩ = some (.slice (some ⟨bM, oM, none⟩) M.length cM) := hbM.cell 0
    have ml := hbM.lt
    have HB := Lib.hid HST3.out.below
    clear hbM
    by_cases hm : 0 < M.length
    · have hmi : (0 : Int) < (M.length : Int) := by omega
      have hf2 := HF.out
      rw [show finL M false r' = (zeroR, 2) from by unfold finL; rw [if_neg (by decide), if_pos hm]] at hf2
      injection hf2 with hf3 hf4
      subst hf3 hf4
      have q0 : w3.cell? ⟨w.heap.size, 0, none⟩ = some (.int .i64 0) := HST3.out.res.cell 0
      have q1 : w3.cell? ⟨w.heap.size, 1, none⟩ = some (.int .i64 0) := HST3.out.res.cell 1
      have q2 : w3.cell? ⟨w.heap.size, 2, none⟩ = some (.string noG) := HST3.out.res.cell 2
      have q3 : w3.cell? ⟨w.heap.size, 3, none⟩ = some (.int .i64 0) := HST3.out.res.cell 3
      have q4 : w3.cell? ⟨w.heap.size, 4, none⟩ = some (.int .i64 0) := HST3.out.res.cell 4
      have p0 := HST3.out.res.frozen 0
      have p1 := HST3.out.res.frozen 1
      have p2 := HST3.out.res.frozen 2
      have p3 := HST3.out.res.frozen 3
      have p4 := HST3.out.res.frozen 4
      have ql := HST3.out.res.lt
      clear HF
      go_wp2_with fail
      refine bodyPost_ret (v := .tuple #[.agg zeroR.cells, .int .i64 2]) ?_ rfl ⟨rfl, by have := HB.out; (repeat (first | (with_reducible assumption) | (with_reducible exact Below.refl _ _) | ((with_reducible refine Below.setCell ?_ ?_ _); rotate_left; · (first | omega | (simp; done) | (simp; omega) | (simp at *; omega))) | ((with_reducible refine Below.alloc ?_ ?_ _); rotate_left; · (first | omega | (simp; done) | (simp; omega) | (simp at *; omega))) | (with_reducible refine Below.drew ?_) | (with_reducible refine below_drewN ?_ _) | ((refine Below.trans ?_ (Below.mono (by with_reducible assumption) ?_)); rotate_left; · (first | omega | (simp; done) | (simp; omega) | (simp at *; omega)))))⟩
      simp [results, Try.results15, go_sem, q0, q1, q2, q3, q4]
      rfl
    · have hmi : ¬ (0 : Int) < (M.length : Int) := by omega
      have hmi2 : decide (0 < M.length) = false := by rw [decide_eq_false_iff_not]; omega
      have hf2 := HF.out
      rw [show finL M false r' = (if recErr r' = 0 then (r', 0) else (zeroR, recErr r')) from by unfold finL; rw [if_neg (by decide), if_neg hm]] at hf2
      have HF2 := Lib.hid hf2
      clear hf2 HF
      obtain ⟨k', t', g', v', i'⟩ := r'
      dsimp only at hg
      obtain ⟨x, hx⟩ : ∃ x, x = recErr ⟨k', t', g', v', i'⟩ := ⟨_, rfl⟩
      have HX := Lib.hid hx
      rw [← hx] at HF2
      clear hx
      have r0 : w3.cell? ⟨w.heap.size + 3, 0, none⟩ = some (.int .i64 k') := HST3.out.rcd.cell 0
      have r1 : w3.cell? ⟨w.heap.size + 3, 1, none⟩ = some (.int .i64 t') := HST3.out.rcd.cell 1
      have r2 : w3.cell? ⟨w.heap.size + 3, 2, none⟩ = some (.string g') := HST3.out.rcd.cell 2
      have r3 : w3.cell? ⟨w.heap.size + 3, 3, none⟩ = some (.int .i64 v') := HST3.out.rcd.cell 3
      have r4 : w3.cell? ⟨w.heap.size + 3, 4, none⟩ = some (.int .i64 i') := HST3.out.rcd.cell 4
      have rl := HST3.out.rcd.lt
      go_wp2_with fail
      refine (check_is k' t' g' v' i' x _ hg HX.out.symm).mono ?_
      rintro e w4 ⟨rfl, hb4⟩
      have HRS := Lib.hid (HST3.out.res.below hb4 HST3.out.res.lt)
      have HRC := Lib.hid (HST3.out.rcd.below hb4 HST3.out.rcd.lt)
      have HB4 := Lib.hid (HB.out.trans (hb4.mono HB.out.size))
      clear hb4 r0 r1 r2 r3 r4 rl s0 sl m0 ml
      have q0 : w4.cell? ⟨w.heap.size, 0, none⟩ = some (.int .i64 0) := HRS.out.cell 0
      have q1 : w4.cell? ⟨w.heap.size, 1, none⟩ = some (.int .i64 0) := HRS.out.cell 1
      have q2 : w4.cell? ⟨w.heap.size, 2, none⟩ = some (.string noG) := HRS.out.cell 2
      have q3 : w4.cell? ⟨w.heap.size, 3, none⟩ = some (.int .i64 0) := HRS.out.cell 3
      have q4 : w4.cell? ⟨w.heap.size, 4, none⟩ = some (.int .i64 0) := HRS.out.cell 4
      have p0 := HRS.out.frozen 0
      have p1 := HRS.out.frozen 1
      have p2 := HRS.out.frozen 2
      have p3 := HRS.out.frozen 3
      have p4 := HRS.out.frozen 4
      have ql := HRS.out.lt
      by_cases hx0 : x = 0
      · subst hx0
        have hf2 := HF2.out
        rw [if_pos rfl] at hf2
        injection hf2 with hf3 hf4
        subst hf3 hf4
        have r0 : w4.cell? ⟨w.heap.size + 3, 0, none⟩ = some (.int .i64 k') := HRC.out.cell 0
        have r1 : w4.cell? ⟨w.heap.size + 3, 1, none⟩ = some (.int .i64 t') := HRC.out.cell 1
        have r2 : w4.cell? ⟨w.heap.size + 3, 2, none⟩ = some (.string g') := HRC.out.cell 2
        have r3 : w4.cell? ⟨w.heap.size + 3, 3, none⟩ = some (.int .i64 v') := HRC.out.cell 3
        have r4 : w4.cell? ⟨w.heap.size + 3, 4, none⟩ = some (.int .i64 i') := HRC.out.cell 4
        have rl := HRC.out.lt
        clear HF2
        go_wp2_with fail
        refine bodyPost_ret (v := .tuple #[.agg (Rec.mk k' t' g' v' i').cells, .int .i64 0]) ?_ rfl ⟨rfl, by have := HB4.out; (repeat (first | (with_reducible assumption) | (with_reducible exact Below.refl _ _) | ((with_reducible refine Below.setCell ?_ ?_ _); rotate_left; · (first | omega | (simp; done) | (simp; omega) | (simp at *; omega))) | ((with_reducible refine Below.alloc ?_ ?_ _); rotate_left; · (first | omega | (simp; done) | (simp; omega) | (simp at *; omega))) | (with_reducible refine Below.drew ?_) | (with_reducible refine below_drewN ?_ _) | ((refine Below.trans ?_ (Below.mono (by with_reducible assumption) ?_)); rotate_left; · (first | omega | (simp; done) | (simp; omega) | (simp at *; omega)))))⟩
        simp [results, Try.results15, go_sem, q0, q1, q2, q3, q4]
        rfl
      · have hx1 : (x != 0) = true := by simp [hx0]
        have hf2 := HF2.out
        rw [if_neg hx0] at hf2
        injection hf2 with hf3 hf4
        subst hf3 hf4
        clear HF2 hx0
        go_wp2_with fail
        refine bodyPost_ret (v := .tuple #[.agg zeroR.cells, .int .i64 x]) ?_ rfl ⟨rfl, by have := HB4.out; (repeat (first | (with_reducible assumption) | (with_reducible exact Below.refl _ _) | ((with_reducible refine Below.setCell ?_ ?_ _); rotate_left; · (first | omega | (simp; done) | (simp; omega) | (simp at *; omega))) | ((with_reducible refine Below.alloc ?_ ?_ _); rotate_left; · (first | omega | (simp; done) | (simp; omega) | (simp at *; omega))) | (with_reducible refine Below.drew ?_) | (with_reducible refine below_drewN ?_ _) | ((refine Below.trans ?_ (Below.mono (by with_reducible assumption) ?_)); rotate_left; · (first | omega | (simp; done) | (simp; omega) | (simp at *; omega)))))⟩
        simp [results, Try.results15, go_sem, q0, q1, q2, q3, q4]
        rfl
  · have hf2 := HF.out
    rw [show finL M true r' = (zeroR, 1) from if_pos rfl] at hf2
    injection hf2 with hf3 hf4
    subst hf3 hf4
    have q0 : w3.cell? ⟨w.heap.size, 0, none⟩ = some (.int .i64 0) := HST3.out.res.cell 0
    have q1 : w3.cell? ⟨w.heap.size, 1, none⟩ = some (.int .i64 0) := HST3.out.res.cell 1
    have q2 : w3.cell? ⟨w.heap.size, 2, none⟩ = some (.string noG) := HST3.out.res.cell 2
    have q3 : w3.cell? ⟨w.heap.size, 3, none⟩ = some (.int .i64 0) := HST3.out.res.cell 3
    have q4 : w3.cell? ⟨w.heap.size, 4, none⟩ = some (.int .i64 0) := HST3.out.res.cell 4
    have p0 := HST3.out.res.frozen 0
    have p1 := HST3.out.res.frozen 1
    have p2 := HST3.out.res.frozen 2
    have p3 := HST3.out.res.frozen 3
    have p4 := HST3.out.res.frozen 4
    have ql := HST3.out.res.lt
    have HB := Lib.hid HST3.out.below
    clear HF
    go_wp2_with fail
    refine bodyPost_ret (v := .tuple #[.agg zeroR.cells, .int .i64 1]) ?_ rfl ⟨rfl, by have := HB.out; (repeat (first | (with_reducible assumption) | (with_reducible exact Below.refl _ _) | ((with_reducible refine Below.setCell ?_ ?_ _); rotate_left; · (first | omega | (simp; done) | (simp; omega) | (simp at *; omega))) | ((with_reducible refine Below.alloc ?_ ?_ _); rotate_left; · (first | omega | (simp; done) | (simp; omega) | (simp at *; omega))) | (with_reducible refine Below.drew ?_) | (with_reducible refine below_drewN ?_ _) | ((refine Below.trans ?_ (Below.mono (by with_reducible assumption) ?_)); rotate_left; · (first | omega | (simp; done) | (simp; omega) | (simp at *; omega)))))⟩
    simp [results, Try.results15, go_sem, q0, q1, q2, q3, q4]
    rfl
set_option maxRecDepth 100000 in
set_option maxHeartbeats 1000000 in
theorem get_empty (A : Option Addr) (cap : Nat) (w : World) :
    Calls Try.prog 15 #[.slice A 0 cap] w (GetBack zeroR 1 w) := by
  go_enter Try.func15, Try.ntmps15
  go_wp2_with fail
  refine bodyPost_ret (v := .tuple #[.agg zeroR.cells, .int .i64 1]) ?_ rfl ⟨rfl, by (repeat (first | (with_reducible assumption) | (with_reducible exact Below.refl _ _) | ((with_reducible refine Below.setCell ?_ ?_ _); rotate_left; · (first | omega | (simp; done) | (simp; omega) | (simp at *; omega))) | ((with_reducible refine Below.alloc ?_ ?_ _); rotate_left; · (first | omega | (simp; done) | (simp; omega) | (simp at *; omega))) | (with_reducible refine Below.drew ?_) | (with_reducible refine below_drewN ?_ _) | ((refine Below.trans ?_ (Below.mono (by with_reducible assumption) ?_)); rotate_left; · (first | omega | (simp; done) | (simp; omega) | (simp at *; omega)))))⟩
  simp [results, Try.results15, go_sem]
  rfl
end Go.Proofs.Ytognidoohinipaa
