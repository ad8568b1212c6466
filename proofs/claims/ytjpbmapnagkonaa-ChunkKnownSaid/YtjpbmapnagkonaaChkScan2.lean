/-
  What is proved here: Scan of package chunk (chapter 13). Conditions: bytes are bytes, at most 2^40 of them.
-/
import Derived.Test.YtjpbmapnagkonaaChkScan
import Derived.Deep.DeepCutAuto
import Derived.WalkMore
namespace Go.Proofs.Ytjpbmapnagkonaa
open Go.RowKit Go.Deep Go.Joins Go.WideShapes

theorem info22 : (Try.prog.info? 22).map (fun i => (i.zero, i.size, i.bytes)) = some (some (.slice none 0 0), 1, 24) := by kernel_rfl
/-- what a scan leaves. -/
def ScanBack (Ps : List (List Int)) (m : Nat) (w : World) (e : Ending) (w' : World) : Prop :=
  ∃ A cap, e = .returned (.tuple #[.slice A Ps.length cap, .int .i64 m]) ∧ RowsOwn w' w.heap.size (.slice A Ps.length cap) Ps ∧ Below w.heap.size w w'
theorem own_le {Good : Value → Prop} {w : World} {base base' : Nat} {e : TypeId} {size n : Nat} {v : Value} {xs : List Value} (h : OwnG Good w base e size v n xs) (hb : base' ≤ base) : OwnG Good w base' e size v n xs :=
  ⟨⟨h.1.1, h.1.2.elim .inl (fun ⟨g, cap, cur, hv, hg, r⟩ => .inr ⟨g, cap, cur, hv, Nat.le_trans hb hg, r⟩)⟩, h.2⟩
theorem rows_push {w w1 w3 : World} {base : Nat} {v v' : Value} {Ps : List (List Int)} {P : List Int} {xs : List Value} {A : Option Addr} {c : Nat} (hx : OwnG IsSl w base 22 1 v Ps.length xs)
    (hr : ∀ i, i < Ps.length → ∃ Ai ci, xs[i]? = some (.slice Ai (Ps.getD i []).length ci) ∧ OwnG (IsIntK .u8) w base 5 1 (.slice Ai (Ps.getD i []).length ci) (Ps.getD i []).length ((Ps.getD i []).map (Value.int .u8)))
    (hp : OwnG (IsIntK .u8) w base 5 1 (.slice A P.length c) P.length (P.map (Value.int .u8))) (hb : Below w.heap.size w w1) (hg : w1.grownBy w3 v.ownBlock)
    (h3 : OwnG IsSl w3 base 22 1 v' (Ps.length + 1) (xs ++ [.slice A P.length c])) : RowsOwn w3 base v' (Ps ++ [P]) := by
  have hxl : xs.length = Ps.length := by have := hx.1.1; simpa using this
  refine ⟨_, by rw [List.length_append]; exact h3, fun i hi => ?_⟩
  rw [List.length_append, List.length_singleton] at hi
  by_cases hlt : i < Ps.length
  · obtain ⟨Ai, ci, e, ho⟩ := hr i hlt
    have eg : (Ps ++ [P]).getD i [] = Ps.getD i [] := by
      rw [List.getD_eq_getElem?_getD, List.getElem?_append_left hlt, List.getD_eq_getElem?_getD]
    rw [eg]
    refine ⟨Ai, ci, by rw [List.getElem?_append_left (by omega)]; exact e, ?_⟩
    exact (ho.below hb).grown hg (fun b h1 h2 => own_types_apart ho hx (by decide) b h1 h2.symm)
  · obtain rfl : i = Ps.length := by omega
    have eg : (Ps ++ [P]).getD Ps.length [] = P := by
      rw [List.getD_eq_getElem?_getD, List.getElem?_append_right (Nat.le_refl _)]; simp
    rw [eg]
    refine ⟨A, c, by rw [List.getElem?_append_right (by omega), hxl]; simp, ?_⟩
    exact (hp.below hb).grown hg (fun b h1 h2 => own_types_apart hp hx (by decide) b h1 h2.symm)
theorem ints_drop {k : IntKind} {w : World} {b off : Nat} {spot : Option Nat} {L : List Int} (h : IntsAt k w (some ⟨b, off, spot⟩) L) (a : Nat) : IntsAt k w (some ((⟨b, off, spot⟩ : Addr).add a)) (L.drop a) := by
  intro hp
  rw [List.length_drop] at hp
  obtain ⟨b', o', e, hlt, hc⟩ := h (by omega)
  cases e
  refine ⟨b, off + a, by rw [Addr.add_lit], hlt, fun i hi => ?_⟩
  rw [List.length_drop] at hi
  have := hc (a + i) (by omega)
  rw [Nat.add_assoc, this]
  have e2 : (L.drop a).getD i 0 = L.getD (a + i) 0 := by simp [List.getD_eq_getElem?_getD, List.getElem?_drop]
  rw [e2]

set_option maxRecDepth 100000 in
set_option maxHeartbeats 4000000 in
theorem scan_any (A : Option Addr) (n cap : Nat) (L : List Int) (w : World) (hln : L.length = n) (hA : IntsAt .u8 w A L) (hL : ∀ x ∈ L, U8 x) (hn : n ≤ 1099511627776) (hcap : n ≤ cap) (hcA : A = none → cap = 0) :
    Calls Try.prog 18 #[.slice A n cap] w (ScanBack (scanF L).1 (scanF L).2 w) := by
  have HA := Lib.hid hA
  have HL := Lib.hid hL
  have HN := Lib.hid hln
  have HCA := Lib.hid hcA
  obtain ⟨R, hR⟩ : ∃ R, R = ScanBack (scanF L).1 (scanF L).2 w := ⟨_, rfl⟩
  rw [← hR]
  have HR := Lib.hid hR
  have H0 := Lib.hid (show (scanF L).1 = [] ++ (scanF (L.drop 0)).1 ∧ (scanF L).2 = 0 + (scanF (L.drop 0)).2 by simp)
  clear hA hL hln hcA hR
  obtain ⟨i0, hi0, hz0, hz1, hz2⟩ := info_parts info22
  have HI0 := Lib.hid hi0
  have HZ0 := Lib.hid hz0
  have HZ1 := Lib.hid hz1
  have HZ2 := Lib.hid hz2
  have HGZ := Lib.hid (show ∀ u ∈ (Value.slice none 0 0).cells.toList, IsSl u from fun u hu => by simp [Value.cells] at hu; exact ⟨_, _, _, hu⟩)
  clear hi0 hz0 hz1 hz2
  go_enter Try.func18, Try.ntmps18
  go_wp2
  go_step3
  go_wp2
  go_step3
  go_wp2
  go_loopg [4, 5] n (fun g l at_ wr => ∃ (a : Nat) (Ps : List (List Int)), a ≤ n ∧ g = n - a ∧ at_ = .int .i64 a ∧ RowsOwn wr w.heap.size l Ps ∧ 6 * Ps.length ≤ a ∧ ((scanF L).1 = Ps ++ (scanF (L.drop a)).1 ∧ (scanF L).2 = a + (scanF (L.drop a)).2) ∧ Below w.heap.size w wr)
  case atStart => exact ⟨0, [], Nat.zero_le _, rfl, rfl, RowsOwn.nil_ _ _, by simp, H0.out, Below.refl _ _⟩
  case round =>
    clear H0
    obtain ⟨a, Ps, ha, rfl, rfl, hrows, h6, hsc, hbr⟩ := hrel
    obtain ⟨wz, rfl⟩ : ∃ wq : World, wq = wr := ⟨_, rfl⟩
    obtain ⟨xs, hx, hr⟩ := hrows
    obtain ⟨Al, cl, rfl⟩ := hx.slice
    obtain ⟨k, hk⟩ : ∃ k, k = Ps.length := ⟨_, rfl⟩
    have HK := Lib.hid hk.symm
    have HX := Lib.hid hx
    have HRW := Lib.hid hr
    have HSC := Lib.hid hsc
    have HBR := Lib.hid hbr
    rw [← hk] at h6 ⊢
    have HAZ := Lib.hid (HA.out.below hbr (Nat.le_refl _))
    have hL' := drop_u8 HL.out a
    obtain ⟨⟨P, m, e⟩, hg⟩ : ∃ p, p = getTo (L.drop a) := ⟨_, rfl⟩
    have HGT := Lib.hid hg.symm
    have HLD := Lib.hid (show (L.drop a).length = n - a by rw [List.length_drop, HN.out])
    have HUD := Lib.hid hL'
    obtain ⟨p, hp⟩ : ∃ p, p = P.length := ⟨_, rfl⟩
    have HP := Lib.hid hp.symm
    have hwz := hbr.size
    clear hx hr hsc hbr hL' hg hp hk
    go_upto_region 3 with fail
    go_cut [6, 7, 8] (fun s6 s7 s8 wx => ∃ A' c', s6 = .slice A' p c' ∧ s7 = .int .i64 m ∧ s8 = .int .i64 e ∧ OwnG (IsIntK .u8) wx w.heap.size 5 1 (.slice A' p c') p (P.map (Value.int .u8)) ∧ Below wz.heap.size wz wx)
    case first =>
      cases A with
      | none =>
        have hc0 := HCA.out rfl
        have hc1 : cap ≤ 0 := by omega
        have hn0 : n ≤ 0 := by omega
        have ha0 : a ≤ 0 := by omega
        have e1 : cap = 0 := hc0
        have e2 : n = 0 := by omega
        have e3 : a = 0 := by omega
        subst e1 e2 e3
        clear hc0 hc1 hn0 ha0
        go_wp2_with fail
        refine (get_to _ _ _ (L.drop 0) P p m e _ HGT.out HP.out HLD.out (fun h => absurd h (by rw [HLD.out]; omega)) HUD.out (by omega) (by omega)).mono ?_
        rintro en w1 ⟨A1, k1, rfl, _, ho1, hb1⟩
        go_wp2_with fail
        go_meet
        exact ⟨A1, k1, rfl, rfl, rfl, own_le ho1 hwz, hb1⟩
      | some ad =>
        obtain ⟨bb, off, spot⟩ := ad
        by_cases hca : cap = a
        · have hc1 : cap ≤ a := by omega
          clear hca
          go_wp2_with fail
          refine (get_to _ _ _ (L.drop a) P p m e _ HGT.out HP.out HLD.out (fun h => absurd h (by rw [HLD.out]; omega)) HUD.out (by omega) (by omega)).mono ?_
          rintro en w1 ⟨A1, k1, rfl, _, ho1, hb1⟩
          go_wp2_with fail
          go_meet
          exact ⟨A1, k1, rfl, rfl, rfl, own_le ho1 hwz, hb1⟩
        · go_wp2_with fail
          refine (get_to (some ((⟨bb, off, spot⟩ : Addr).add a)) (n - a) (cap - a) (L.drop a) P p m e _ HGT.out HP.out HLD.out (ints_drop HAZ.out a) HUD.out (by omega) (by omega)).mono ?_
          rintro en w1 ⟨A1, k1, rfl, _, ho1, hb1⟩
          go_wp2_with fail
          go_meet
          exact ⟨A1, k1, rfl, rfl, rfl, own_le ho1 hwz, hb1⟩
    case rest =>
    obtain ⟨A', c', rfl, rfl, rfl, hown, hbx⟩ := hcut
    obtain ⟨wx, rfl⟩ : ∃ wq : World, wq = wc := ⟨_, rfl⟩
    have HOP := Lib.hid hown
    have HBX := Lib.hid hbx
    have HX2 := Lib.hid (HX.out.below hbx)
    have hwx := hbx.size
    clear hown
    by_cases he : e = 0
    · obtain ⟨g6, gl, gm⟩ := getTo_ok HUD.out (by rw [HGT.out]; exact he)
      have hgo := scanF_go HUD.out (by rw [HGT.out]; exact he)
      rw [HGT.out] at g6 gl gm hgo
      dsimp only at g6 gl gm hgo
      obtain ⟨M, hM⟩ : ∃ M, M = m.toNat := ⟨_, rfl⟩
      rw [← hM] at g6 gl gm hgo
      rw [HLD.out] at gl
      rw [List.drop_drop] at hgo
      have HGO := Lib.hid hgo
      clear hgo hM
      subst gm he
      have k3 : k + 1 ≤ maxLen := by unfold maxLen; omega
      have k4 : (k + 1) * 24 ≤ 140737488355328 := by omega
      have k5 : w.heap.size ≤ (wx.alloc (.cells #[.slice A' p c'] 22)).heap.size := by simp; omega
      have HXA := Lib.hid (show OwnG IsSl (wx.alloc (.cells #[.slice A' p c'] 22)) w.heap.size 22 1 (.slice Al Ps.length cl) k xs by have := HX2.out.alloc (.cells #[.slice A' p c'] 22); rw [HK.out] at this; rw [HK.out]; exact this)
      have HXB := Lib.hid (show OwnG IsSl (wx.alloc (.cells #[.slice A' p c'] 22)) w.heap.size 22 1 (.slice Al k cl) k xs by have := HXA.out; rw [HK.out] at this; exact this)
      have HGX := Lib.hid (show ∀ u ∈ xs, IsSl u from fun u hu => by
        obtain ⟨i, hi, e⟩ := List.getElem_of_mem hu
        have hxl : xs.length = Ps.length := by have := HX.out.1.1; simpa using this
        obtain ⟨Ai, ci, e2, _⟩ := HRW.out i (by omega)
        rw [List.getElem?_eq_getElem hi, e] at e2
        cases e2
        exact ⟨_, _, _, rfl⟩)
      have HG1 := Lib.hid (show ∀ u ∈ [Value.slice A' p c'], IsSl u from fun u hu => by simp at hu; exact ⟨_, _, _, hu⟩)
      have HO1 := Lib.hid (show ∀ u ∈ [Value.slice A' p c'], u.oneCell' = true from fun u hu => by simp at hu; rw [hu]; rfl)
      have hbw : Below w.heap.size w (wx.alloc (.cells #[.slice A' p c'] 22)) := (HBR.out.trans (hbx.mono HBR.out.size)).alloc (by omega) _
      have HBW := Lib.hid hbw
      clear hbw hbx
      go_wp2_with (at_builtin; refine wpList_append_G _ rfl (.tmp 19) (.tmp 21) 35 rfl IsSl w.heap.size 22 i0 _ 1 24 Try.underlying35 HI0.out HZ0.out HZ1.out HZ2.out rfl (by omega) _ k xs rfl HXB.out ⟨wx.heap.size, 0, none⟩ 1 1 [.slice A' p c'] rfl rfl (World.news_of_block (cs := #[.slice A' p c']) (t := 22) (fr := (0, 0)) (heap_alloc_new wx _)) HO1.out k3 k4 k5 HGZ.out HG1.out HGX.out ?_; intro v3 w3 hown3 hgrow3; have hb3 : Below w.heap.size w w3 := HBW.out.grown hgrow3 k5 (fun q hq => (HXB.out.1.lt q hq).1))
      go_roundg (n - (a + M))
      case measure => omega
      case rel =>
        refine ⟨a + M, Ps ++ [P], by omega, rfl, by go_num, ?_, ?_, ⟨?_, ?_⟩, hb3⟩
        · refine rows_push (w := wx) (A := A') (c := c') HX2.out (fun i hi => ?_) (by rw [HP.out]; exact HOP.out) ((Below.refl _ _).alloc (Nat.le_refl _) (.cells #[.slice A' p c'] 22)) (by rw [HK.out]; exact hgrow3) (by rw [HK.out, HP.out]; exact hown3)
          obtain ⟨Ai, ci, e1, e2⟩ := HRW.out i hi
          exact ⟨Ai, ci, e1, e2.below HBX.out⟩
        · rw [List.length_append, HK.out]; simp; omega
        · rw [HSC.out.1, HGO.out, List.append_assoc]; rfl
        · rw [HSC.out.2, HGO.out, Nat.add_assoc]
    · have hst := scanF_stop (L := L.drop a) (by rw [HGT.out]; exact he)
      have HF := Lib.hid (show scanF L = (Ps, a) from Prod.ext (by rw [HSC.out.1, hst]; simp) (by rw [HSC.out.2, hst]; rfl))
      have HRX := Lib.hid (show RowsOwn wx w.heap.size (.slice Al Ps.length cl) Ps from ⟨xs, HX2.out, fun i hi => by
        obtain ⟨Ai, ci, e1, e2⟩ := HRW.out i hi
        exact ⟨Ai, ci, e1, e2.below HBX.out⟩⟩)
      have HBW := Lib.hid (HBR.out.trans (hbx.mono HBR.out.size))
      have hne : (e != 0) = true := by simp [he]
      clear hst hbx he
      go_wp2_with fail
      rw [HR.out, HF.out]
      exact ⟨Al, cl, by rw [HK.out]; rfl, HRX.out, HBW.out⟩
end Go.Proofs.Ytjpbmapnagkonaa
