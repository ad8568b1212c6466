/-
  What is proved here: the law ChunkPrefix returns true for all it is given. Conditions: none.
-/
import Derived.Test.YtjpbmapnagkonaaChkPre
namespace Go.Proofs.Ytjpbmapnagkonaa
namespace ChunkPrefix
open Go.ChangeShapes Go.WideShapes Go.ChangeAt Go.RowKit Go.Deep Go.Joins

theorem ints_take {k : IntKind} {w : World} {A : Option Addr} {L : List Int} (h : IntsAt k w A L) (a : Nat) : IntsAt k w A (L.take a) := by
  intro hp
  rw [List.length_take] at hp
  obtain ⟨b, o, e, hlt, hc⟩ := h (by omega)
  refine ⟨b, o, e, hlt, fun i hi => ?_⟩
  rw [List.length_take] at hi
  rw [hc i (by omega)]
  have e2 : (L.take a).getD i 0 = L.getD i 0 := by
    rw [List.getD_eq_getElem?_getD, List.getElem?_take, if_pos (by omega), List.getD_eq_getElem?_getD]
  rw [e2]
theorem own_news {w : World} {base l c : Nat} {A : Option Addr} {Q : List Int} (h : OwnG (IsIntK .u8) w base 5 1 (.slice A l c) l (Q.map (Value.int .u8))) : A = none → l = 0 ∧ c = 0 := by
  rcases h.1.2 with ⟨e, h0⟩ | ⟨g, cap, cur, e, _⟩
  · cases e; exact fun _ => ⟨rfl, rfl⟩
  · cases e; exact fun h => by cases h

set_option maxRecDepth 100000 in
set_option maxHeartbeats 2000000 in
theorem walk (A : Option Addr) (n cap : Nat) (L : List Int) (w : World) (hln : L.length = n) (hA : IntsAt .u8 w A L) (hL : ∀ x ∈ L, U8 x) (hcA : A = none → cap = 0) (hcap : n ≤ cap) (hn : n ≤ 140737488351232) :
    Calls Try.prog 8 #[.slice A n cap] w fun e w' => e = .returned (.bool true) ∧ Below w.heap.size w w' := by
  have HA := Lib.hid hA
  have HL := Lib.hid hL
  have HN := Lib.hid hln
  have HCA := Lib.hid hcA
  by_cases hbig : 65536 < n
  · have t1 : (65536 : Int) < (n : Int) := by omega
    clear hA hL hln hcA
    go_enter Try.func8, Try.ntmps8
    go_wp2_with fail
    refine (known_any _).mono ?_
    rintro e w1 ⟨rfl, hb1⟩
    go_wp2
    go_ret
    exact ⟨rfl, hb1⟩
  have t1 : ¬ (65536 : Int) < (n : Int) := by omega
  obtain ⟨⟨Ps, s⟩, hs⟩ : ∃ p, p = scanF L := ⟨_, rfl⟩
  obtain ⟨l1, l2, l3, l4⟩ := scan_laid hL
  have hcnt := scanN_count (L.length + 1) L
  rw [show scanN (L.length + 1) L = (Ps, s) from hs.symm] at hcnt
  rw [← hs] at l1 l2 l3 l4
  dsimp only at l1 l2 l3 l4 hcnt
  have HS1 := Lib.hid (show (scanF L).1 = Ps by rw [← hs])
  have HS2 := Lib.hid (show (scanF L).2 = s by rw [← hs])
  have HL1 := Lib.hid l1
  have HL3 := Lib.hid l3
  have HL4 := Lib.hid l4
  rw [hln] at l2 hcnt
  obtain ⟨d, hd⟩ : ∃ d, d = Ps.length := ⟨_, rfl⟩
  have HD := Lib.hid hd.symm
  rw [← hd] at hcnt
  obtain ⟨i0, hi0, hz0, hz1, hz2⟩ := info_parts Bytes.infoE
  have HI0 := Lib.hid hi0
  have HZ0 := Lib.hid hz0
  have HZ1 := Lib.hid hz1
  have HZ2 := Lib.hid hz2
  have HZI := Lib.hid (zero_intK .u8)
  clear hi0 hz0 hz1 hz2 hA hL hln hcA hs l1 l3 l4 hd
  go_enter Try.func8, Try.ntmps8
  go_wp2_with fail
  refine (scan_any A n cap L _ HN.out HA.out HL.out (by omega) hcap HCA.out).mono ?_
  rw [HS1.out, HS2.out]
  rintro e1 w1 ⟨A1, k1, rfl, ho1, hb1⟩
  have HR1 := Lib.hid ho1.at_
  have B1 := Lib.hid hb1
  have hz1 := hb1.size
  clear hb1 ho1
  rw [HD.out]
  go_wp2_with fail
  obtain ⟨wb, hwb⟩ : ∃ wb, wb = w1.alloc (.cells #[] 5) := ⟨_, rfl⟩
  have hob : OwnG (IsIntK .u8) wb w1.heap.size 5 1 (.slice (some ⟨w1.heap.size, 0, none⟩) 0 0) 0 (([] : List Int).map (Value.int .u8)) := by
    rw [hwb]; exact own_of_blk (k := .u8) (base := w1.heap.size) (L := []) (n := 0) (Blk.new w1 5 #[]) (Nat.le_refl _) rfl rfl (by omega)
  have hbb : Below w1.heap.size w1 wb := by rw [hwb]; exact (Below.refl _ _).alloc (Nat.le_refl _) _
  rw [← hwb]
  have HOB := Lib.hid hob
  have HBB := Lib.hid hbb
  clear hwb hob hbb
  go_loopg [5, 6] d (fun gm av iv wr => ∃ (i c : Nat) (X : Option Addr), i ≤ d ∧ gm = d - i ∧ iv = .int .i64 i ∧ av = .slice X (laidL (Ps.take i)).length c ∧ OwnG (IsIntK .u8) wr w1.heap.size 5 1 (.slice X (laidL (Ps.take i)).length c) (laidL (Ps.take i)).length ((laidL (Ps.take i)).map (Value.int .u8)) ∧ Below w1.heap.size w1 wr)
  case atStart => exact ⟨0, 0, some ⟨w1.heap.size, 0, none⟩, by omega, rfl, rfl, rfl, HOB.out, HBB.out⟩
  case round =>
    clear HOB HBB
    obtain ⟨i, c, X, hi, rfl, rfl, rfl, hown, hbw⟩ := hrel
    obtain ⟨wy, rfl⟩ : ∃ wq : World, wq = wr := ⟨_, rfl⟩
    have HOW := Lib.hid hown
    have HBW := Lib.hid hbw
    have hzy := hbw.size
    by_cases hlt : i < d
    · have hii : (i : Int) < (d : Int) := by omega
      have hi0 : (0 : Int) ≤ (i : Int) := by omega
      obtain ⟨b, off, rfl, hbl, hrow⟩ := HR1.out (by rw [HD.out]; omega)
      obtain ⟨Ai, ci, hcell, hints, _, hca⟩ := hrow i (by rw [HD.out]; omega)
      have hpay := HL3.out (Ps.getD i []) (by rw [List.getD_eq_getElem?_getD, List.getElem?_eq_getElem (by rw [HD.out]; omega)]; simp)
      have htk : Ps.take (i + 1) = Ps.take i ++ [Ps.getD i []] := by
        rw [List.take_succ_eq_append_getElem (by rw [HD.out]; omega), List.getD_eq_getElem?_getD, List.getElem?_eq_getElem (by rw [HD.out]; omega)]; rfl
      obtain ⟨P, hP⟩ : ∃ P, P = Ps.getD i [] := ⟨_, rfl⟩
      rw [← hP] at hcell hints hpay htk
      have HTK := Lib.hid (show laidL (Ps.take (i + 1)) = laidL (Ps.take i) ++ putL P by rw [htk, laidL_snoc])
      have hle := laidL_take_le (Ps.take i) (fun Q hQ => HL3.out Q (List.mem_of_mem_take hQ))
      have hle2 : (Ps.take i).length ≤ 65537 := by rw [List.length_take, HD.out]; omega
      obtain ⟨Y, hY⟩ : ∃ Y, Y = laidL (Ps.take i) := ⟨_, rfl⟩
      rw [← hY] at HOW HTK hle ⊢
      have g1 := (hbw.cell (p := ⟨b, off + i, none⟩) hbl).trans hcell
      have HIN := Lib.hid (hints.below hbw (Nat.le_refl _))
      have HPY := Lib.hid hpay
      obtain ⟨p1, _⟩ := hpay
      have HCI := Lib.hid hca
      obtain ⟨p, hp⟩ : ∃ p, p = P.length := ⟨_, rfl⟩
      have HP := Lib.hid hp.symm
      obtain ⟨y, hy⟩ : ∃ y, y = Y.length := ⟨_, rfl⟩
      have HY := Lib.hid hy.symm
      rw [← hp] at g1 p1
      rw [← hy] at hle HOW ⊢
      clear hrow hcell hints htk hP hY hp hown hbw hca hy
      go_wp2_with fail
      refine (put_any Ai ci p P _ HP.out HIN.out HCI.out HPY.out.2 p1).mono ?_
      rintro e2 w2 ⟨A2, k2, rfl, hl2, ho2, hb2⟩
      have hz2 := hb2.size
      have HO2 := Lib.hid ho2
      have HPL := Lib.hid hl2
      have HW2 := Lib.hid (HBW.out.trans (hb2.mono hzy))
      have HX2 := Lib.hid (HOW.out.below hb2)
      have HNN := Lib.hid (own_news ho2)
      have HNW := Lib.hid (ints_news (own_ints ho2))
      have k3 : y + (6 + p) ≤ maxLen := by unfold maxLen; omega
      have k4 : (y + (6 + p)) * 1 ≤ 140737488355328 := by omega
      have K8 := Lib.hid (show ((putL P).map (Value.int .u8)).length = (6 + p) * 1 by rw [List.length_map, HPL.out]; omega)
      have k5 : w1.heap.size ≤ w2.heap.size := by omega
      clear hl2 ho2 hb2 g1
      go_wp2_with (at_builtin; refine wpList_append_G_any _ rfl (.tmp 38) (.tmp 39) 22 rfl (IsIntK .u8) w1.heap.size 5 i0 _ 1 1 Try.underlying22 HI0.out HZ0.out HZ1.out HZ2.out rfl (by omega) _ y _ rfl HX2.out A2 (6 + p) k2 ((putL P).map (Value.int .u8)) rfl K8.out HNN.out HNW.out (ints_oneCell .u8 _) k3 k4 k5 HZI.out (ints_all .u8 _) (ints_all .u8 _) ?_; intro v3 w3 hown3 hgrow; have hb3 : Below w1.heap.size w1 w3 := HW2.out.grown hgrow k5 (fun q hq => (HX2.out.1.lt q hq).1); obtain ⟨A3, k3', rfl⟩ := hown3.slice)
      rw [← List.map_append, ← HTK.out] at hown3
      have HO3 := Lib.hid hown3
      have hyl : (laidL (Ps.take (i + 1))).length = y + (6 + p) := by rw [HTK.out, List.length_append, HPL.out, HY.out]
      have HYL := Lib.hid hyl
      clear hown3 hgrow hyl
      go_roundg (d - (i + 1))
      case measure => omega
      case rel => exact ⟨i + 1, k3', A3, by omega, rfl, by go_num, by rw [HYL.out], by rw [HYL.out]; exact HO3.out, hb3⟩
    · obtain rfl : i = d := by omega
      have hii : ¬ (i : Int) < (i : Int) := by omega
      have hta : Ps.take i = Ps := by rw [← HD.out, List.take_length]
      rw [hta] at HOW ⊢
      have HLS := Lib.hid (show (L.take s).length = s by rw [List.length_take, HN.out]; omega)
      rw [HL1.out, HLS.out] at HOW ⊢
      have HBX := Lib.hid (B1.out.trans (hbw.mono hz1))
      have HR3 := Lib.hid (reads_of_own (L := L.take s) (by rw [HLS.out]; exact HOW.out))
      have HRB := Lib.hid (show Reads .u8 wy (.slice A s cap) (L.take s) from ⟨A, cap, by rw [HLS.out], (ints_take HA.out s).below HBX.out (Nat.le_refl _)⟩)
      obtain ⟨⟨P, m, e⟩, hg⟩ : ∃ p, p = getTo (L.drop s) := ⟨_, rfl⟩
      have he : e ≠ 0 := by have := HL4.out; rw [← hg] at this; exact this
      have HG := Lib.hid hg.symm
      have HLD := Lib.hid (show (L.drop s).length = n - s by rw [List.length_drop, HN.out])
      have HUD := Lib.hid (drop_u8 HL.out s)
      have he2 : (e != 0) = true := by simp [he]
      have hs0 : (0 : Int) ≤ (s : Int) := by omega
      have hsn : ¬ (n : Int) < (s : Int) := by omega
      have hs0' : ¬ (s : Int) < 0 := by omega
      clear hown hbw hta hg he
      go_wp2_with fail
      refine (Bytes.same_yes (L := L.take s) HR3.out HRB.out (by rw [HLS.out]; omega)).mono ?_
      rintro e3 w3 ⟨rfl, hb3⟩
      have HB3 := Lib.hid (HBX.out.trans (hb3.mono HBX.out.size))
      clear hb3
      go_upto_region 14 with fail
      go_cut [11] (fun s11 wx => s11 = .int .i64 e ∧ Below w.heap.size w wx)
      case first =>
        cases A with
        | none =>
          have e1 : cap = 0 := HCA.out rfl
          have e2 : n = 0 := by omega
          have e3 : s = 0 := by omega
          subst e1 e2 e3
          go_wp2_with fail
          refine (get_to _ _ _ (L.drop 0) P P.length m e _ HG.out rfl HLD.out (fun h => absurd h (by rw [HLD.out]; omega)) HUD.out (by omega) (by omega)).mono ?_
          rintro en w4 ⟨A4, k4, rfl, _, _, hb4⟩
          go_wp2_with fail
          go_meet
          exact ⟨rfl, HB3.out.trans (hb4.mono HB3.out.size)⟩
        | some ad =>
          obtain ⟨bb, off, spot⟩ := ad
          by_cases hca : cap = s
          · have hc1 : cap ≤ s := by omega
            clear hca
            go_wp2_with fail
            refine (get_to _ _ _ (L.drop s) P P.length m e _ HG.out rfl HLD.out (fun h => absurd h (by rw [HLD.out]; omega)) HUD.out (by omega) (by omega)).mono ?_
            rintro en w4 ⟨A4, k4, rfl, _, _, hb4⟩
            go_wp2_with fail
            go_meet
            exact ⟨rfl, HB3.out.trans (hb4.mono HB3.out.size)⟩
          · go_wp2_with fail
            refine (get_to (some ((⟨bb, off, spot⟩ : Addr).add s)) (n - s) (cap - s) (L.drop s) P P.length m e _ HG.out rfl HLD.out (ints_drop (HA.out.below HB3.out (Nat.le_refl _)) s) HUD.out (by omega) (by omega)).mono ?_
            rintro en w4 ⟨A4, k4, rfl, _, _, hb4⟩
            go_wp2_with fail
            go_meet
            exact ⟨rfl, HB3.out.trans (hb4.mono HB3.out.size)⟩
      case rest =>
      obtain ⟨rfl, hbx⟩ := hcut
      have HBX2 := Lib.hid hbx
      clear hbx
      go_wp2_with fail
      refine (known_any _).mono ?_
      rintro e w5 ⟨rfl, hb5⟩
      have HW5 := Lib.hid (HBX2.out.trans (hb5.mono HBX2.out.size))
      clear hb5
      go_wp2_with fail
      go_ret
      exact ⟨rfl, HW5.out⟩

theorem own : ownKnob Try.prog.godebug = none := by kernel_rfl

set_option maxRecDepth 100000 in
theorem lifted (os : Os) (started : os.Started) (H : Type) (enc : TypeId × Value → H) :
    ReturnsInHanded {} Try.checked os 8 .any (Rows.chunkPrefixSpec.pre6 enc Try.prog Try.f8 Rows.chunkPrefixRow.domain false) (Rows.chunkPrefixSpec.post enc Try.prog Try.f8 false true false false) := by
  refine law_lifted (C := Try.checked) (tb := 4) own started (by kernel_rfl) Try.func8
    (ChangeSpec.witness6 (enc := enc) (C := Try.checked) false ⟨#[], #[.slice none 0 0], []⟩ 8 (by kernel_rfl) (by kernel_rfl) (by kernel_rfl) (by kernel_rfl))
    rfl (by kernel_rfl) (by kernel_rfl) (by kernel_rfl) Try.underlying4 (fun ds h => ?_) ?_
  · rw [show Try.f8.params = #[22] from Try.params8] at h
    match ds, h with
    | [_], _ => rfl
  · intro W base args ds before hval hA hlt hsz
    rw [show Try.f8.params = #[22] from Try.params8] at hA hval hsz
    obtain ⟨v0, vs0, d0, ds0, p0, q0, hargs, rfl, rfl, h0, r0⟩ := trodAll_cons hA
    obtain ⟨rfl, rfl, rfl⟩ := trodAll_nil r0
    obtain rfl : args = #[v0] := by cases args; simp_all
    obtain ⟨A, cap, L, rfl, hc, hc2, iA, iL, icA⟩ := open_bytes (j := 0) (hval 0 _ v0 rfl rfl) h0 hsz rfl rfl
    exact walk A L.length cap L W rfl iA iL icA hc (by omega)

theorem proved : Rows.ChunkPrefixSaid :=
  OpenClaim.holds_of_wide 8 Try.f8 rfl rfl rfl rfl rfl rfl rfl ⟨rfl, rfl, rfl, rfl, rfl⟩ rfl rfl rfl rfl rfl (by kernel_rfl) Try.func8 (by kernel_rfl)
    (of_decide_eq_true (by kernel_rfl)) (by unfold Func.isWrapper; rw [if_neg (of_decide_eq_false (by kernel_rfl))]; exact ⟨rfl, rfl⟩)
    (fun os started H enc _ => lifted os started H enc)
#print axioms proved
end ChunkPrefix
end Go.Proofs.Ytjpbmapnagkonaa
