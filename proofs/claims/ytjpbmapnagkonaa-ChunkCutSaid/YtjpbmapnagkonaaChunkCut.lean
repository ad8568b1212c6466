/-
  What is proved here: the law ChunkCut returns true for all it is given. Conditions: none.
-/
import Derived.Test.YtjpbmapnagkonaaChkRows
import Derived.Test.YtjpbmapnagkonaaPick
namespace Go.Proofs.Ytjpbmapnagkonaa
namespace ChunkCut
open Go.ChangeShapes Go.WideShapes Go.ChangeAt Go.RowKit Go.Deep Go.Joins

theorem laidL_append (A B : List (List Int)) : laidL (A ++ B) = laidL A ++ laidL B := by simp [laidL]
theorem scan_cut {Ps : List (List Int)} (hp : ∀ P ∈ Ps, Pay P) {c k : Nat} (hk : k ≤ Ps.length) (h1 : (laidL (Ps.take k)).length ≤ c) (h2 : k = Ps.length ∨ c < (laidL (Ps.take (k + 1))).length) :
    scanF ((laidL Ps).take c) = (Ps.take k, (laidL (Ps.take k)).length) := by
  have e : laidL Ps = laidL (Ps.take k) ++ laidL (Ps.drop k) := by rw [← laidL_append, List.take_append_drop]
  have hq : ∀ P ∈ Ps.take k, Pay P := fun P hP => hp P (List.mem_of_mem_take hP)
  rw [e, List.take_append, List.take_of_length_le h1]
  by_cases hkl : k = Ps.length
  · have ed : Ps.drop k = [] := List.drop_eq_nil_of_le (by omega)
    rw [ed]
    rw [show (laidL ([] : List (List Int))).take (c - (laidL (Ps.take k)).length) = [] by simp [laidL]]
    exact scan_of_laid _ [] hq (fun x hx => absurd hx (by simp)) get_nil
  · have hlt : k < Ps.length := by omega
    have h3 := h2.resolve_left hkl
    rw [List.take_succ_eq_append_getElem hlt, laidL_snoc, List.length_append] at h3
    have ed : Ps.drop k = Ps[k] :: Ps.drop (k + 1) := List.drop_eq_getElem_cons hlt
    have hpk := hp Ps[k] (List.getElem_mem hlt)
    rw [ed, laidL_cons, List.take_append_of_le_length (by omega)]
    exact scan_of_laid _ _ hq (fun x hx => putL_u8 hpk.2 (by have := hpk.1; omega) x (List.mem_of_mem_take hx)) (get_cut hpk (by omega))
theorem scan_whole {Ps : List (List Int)} (hp : ∀ P ∈ Ps, Pay P) : scanF (laidL Ps) = (Ps, (laidL Ps).length) := by
  have := scan_of_laid Ps [] hp (fun x hx => absurd hx (by simp)) get_nil
  rw [List.append_nil] at this
  exact this
theorem cutL_pay {Ls : List (List Int)} (h : ∀ L ∈ Ls, ∀ x ∈ L, U8 x) : ∀ P ∈ cutL Ls, Pay P := by
  intro P hP
  unfold cutL at hP
  obtain ⟨L, h1, rfl⟩ := List.mem_map.1 hP
  exact ⟨by rw [List.length_take]; omega, fun x hx => h L (List.mem_of_mem_take h1) x (List.mem_of_mem_take hx)⟩
theorem cutL_len (Ls : List (List Int)) : (cutL Ls).length ≤ 60 := by unfold cutL; rw [List.length_map, List.length_take]; omega
def endI (Rs : List (List Int)) (i : Nat) : Nat := (laidL (Rs.take i)).length
def endL (Rs : List (List Int)) (i : Nat) : List Int := (List.range i).map fun j => (endI Rs (j + 1) : Int)
theorem endL_len (Rs : List (List Int)) (i : Nat) : (endL Rs i).length = i := by simp [endL]
theorem endL_snoc (Rs : List (List Int)) (i : Nat) : endL Rs (i + 1) = endL Rs i ++ [(endI Rs (i + 1) : Int)] := by simp [endL, List.range_succ]
theorem endL_get (Rs : List (List Int)) {i j : Nat} (h : j < i) : (endL Rs i).getD j 0 = (endI Rs (j + 1) : Int) := by simp [endL, h]
theorem own_news {w : World} {base l c : Nat} {A : Option Addr} {Q : List Int} (h : OwnG (IsIntK .u8) w base 5 1 (.slice A l c) l (Q.map (Value.int .u8))) : A = none → l = 0 ∧ c = 0 := by
  rcases h.1.2 with ⟨e, h0⟩ | ⟨g, cap, cur, e, _⟩
  · cases e; exact fun _ => ⟨rfl, rfl⟩
  · cases e; exact fun h => by cases h
theorem rows_take {w : World} {A : Option Addr} {Ps : List (List Int)} (h : RowsAt w A Ps) (k : Nat) : RowsAt w A (Ps.take k) := by
  intro hp
  rw [List.length_take] at hp
  obtain ⟨b, o, e, hlt, hc⟩ := h (by omega)
  refine ⟨b, o, e, hlt, fun i hi => ?_⟩
  rw [List.length_take] at hi
  have e2 : (Ps.take k).getD i [] = Ps.getD i [] := by
    rw [List.getD_eq_getElem?_getD, List.getElem?_take, if_pos (by omega), List.getD_eq_getElem?_getD]
  rw [e2]
  exact hc i (by omega)
theorem getD_mem {l : List (List Int)} {j : Nat} (h : j < l.length) : l.getD j [] ∈ l := by
  rw [List.getD_eq_getElem?_getD, List.getElem?_eq_getElem h]; simp
theorem infoI : (Try.prog.info? 3).map (fun i => (i.zero, i.size, i.bytes)) = some (some (.int .i64 0), 1, 8) := by kernel_rfl

set_option maxRecDepth 100000 in
set_option maxHeartbeats 4000000 in
theorem walk (A : Option Addr) (n cap : Nat) (Ls : List (List Int)) (cut : Int) (w : World) (hln : Ls.length = n) (hA : RowsAt w A Ls) (hn : n ≤ 9223372036854775807) (hl : ∀ L ∈ Ls, L.length ≤ 9223372036854775807) (hu : ∀ L ∈ Ls, ∀ x ∈ L, U8 x)
    (c1 : -9223372036854775808 ≤ cut) (c2 : cut ≤ 9223372036854775807) :
    Calls Try.prog 7 #[.slice A n cap, .int .i64 cut] w fun e w' => e = .returned (.bool true) ∧ Below w.heap.size w w' := by
  have HA := Lib.hid hA
  have HN := Lib.hid hln
  have HLL := Lib.hid hl
  have HPA := Lib.hid (cutL_pay hu)
  have hdl := cutL_len Ls
  obtain ⟨Rs, hRs⟩ : ∃ R, R = cutL Ls := ⟨_, rfl⟩
  rw [← hRs] at HPA hdl
  have HRS := Lib.hid hRs.symm
  obtain ⟨d, hd⟩ : ∃ d, d = Rs.length := ⟨_, rfl⟩
  have HD := Lib.hid hd.symm
  rw [← hd] at hdl
  obtain ⟨i0, hi0, hz0, hz1, hz2⟩ := info_parts Bytes.infoE
  have HI0 := Lib.hid hi0
  have HZ0 := Lib.hid hz0
  have HZ1 := Lib.hid hz1
  have HZ2 := Lib.hid hz2
  have HZI := Lib.hid (zero_intK .u8)
  obtain ⟨i1, hj0, hy0, hy1, hy2⟩ := info_parts infoI
  have HJ0 := Lib.hid hj0
  have HY0 := Lib.hid hy0
  have HY1 := Lib.hid hy1
  have HY2 := Lib.hid hy2
  have HYI := Lib.hid (zero_intK .i64)
  clear hi0 hz0 hz1 hz2 hj0 hy0 hy1 hy2 hA hln hl hu hRs hd
  go_enter Try.func7, Try.ntmps7
  go_wp2_with fail
  refine (rows_any A n cap Ls _ HN.out HA.out hn HLL.out).mono ?_
  rw [HRS.out]
  rintro e1 w1 ⟨B, kB, rfl, hrb, hb1, hkB⟩
  rw [HD.out] at hkB ⊢
  have HR1 := Lib.hid hrb
  have B1 := Lib.hid hb1
  have hz1 := hb1.size
  clear hb1 hrb
  go_wp2_with fail
  obtain ⟨wb, hwb⟩ : ∃ wb, wb = w1.alloc (.cells #[] 5) := ⟨_, rfl⟩
  have hob : OwnG (IsIntK .u8) wb w1.heap.size 5 1 (.slice (some ⟨w1.heap.size, 0, none⟩) 0 0) 0 (([] : List Int).map (Value.int .u8)) := by
    rw [hwb]; exact own_of_blk (k := .u8) (base := w1.heap.size) (L := []) (n := 0) (Blk.new w1 5 #[]) (Nat.le_refl _) rfl rfl (by omega)
  have hbb : Below w1.heap.size w1 wb := by rw [hwb]; exact (Below.refl _ _).alloc (Nat.le_refl _) _
  rw [← hwb]
  have HOB := Lib.hid hob
  have HBB := Lib.hid hbb
  clear hwb hob hbb
  go_loopg [5, 6, 7] d (fun gm av ev iv wr => ∃ (i c ce : Nat) (X Y : Option Addr), i ≤ d ∧ gm = d - i ∧ iv = .int .i64 i ∧ av = .slice X (endI Rs i) c ∧ ev = .slice Y i ce ∧
    OwnG (IsIntK .u8) wr w1.heap.size 5 1 (.slice X (endI Rs i) c) (endI Rs i) ((laidL (Rs.take i)).map (Value.int .u8)) ∧ OwnG (IsIntK .i64) wr w1.heap.size 3 1 (.slice Y i ce) i ((endL Rs i).map (Value.int .i64)) ∧ Below w1.heap.size w1 wr)
  case atStart => exact ⟨0, 0, 0, some ⟨w1.heap.size, 0, none⟩, none, by omega, rfl, rfl, rfl, rfl, HOB.out, OwnG.nil_ _ _ _ _, HBB.out⟩
  case round =>
    clear HOB HBB
    obtain ⟨i, c, ce, X, Y, hi, rfl, rfl, rfl, rfl, hown, hown2, hbw⟩ := hrel
    obtain ⟨wy, rfl⟩ : ∃ wq : World, wq = wr := ⟨_, rfl⟩
    have HOW := Lib.hid hown
    have HOE := Lib.hid hown2
    have HBW := Lib.hid hbw
    have hzy := hbw.size
    have hle := laidL_take_le (Rs.take i) (fun Q hQ => HPA.out Q (List.mem_of_mem_take hQ))
    have hle2 : (Rs.take i).length ≤ 60 := by rw [List.length_take, HD.out]; omega
    by_cases hlt : i < d
    · have hii : (i : Int) < (d : Int) := by omega
      have hi0 : (0 : Int) ≤ (i : Int) := by omega
      obtain ⟨b, off, rfl, hbl, hrow⟩ := HR1.out (by rw [HD.out]; omega)
      obtain ⟨Ai, ci, hcell, hints, _, hca⟩ := hrow i (by rw [HD.out]; omega)
      have hpay := HPA.out (Rs.getD i []) (by rw [List.getD_eq_getElem?_getD, List.getElem?_eq_getElem (by rw [HD.out]; omega)]; simp)
      have htk : Rs.take (i + 1) = Rs.take i ++ [Rs.getD i []] := by
        rw [List.take_succ_eq_append_getElem (by rw [HD.out]; omega), List.getD_eq_getElem?_getD, List.getElem?_eq_getElem (by rw [HD.out]; omega)]; rfl
      obtain ⟨P, hP⟩ : ∃ P, P = Rs.getD i [] := ⟨_, rfl⟩
      rw [← hP] at hcell hints hpay htk
      have HTK := Lib.hid (show laidL (Rs.take (i + 1)) = laidL (Rs.take i) ++ putL P by rw [htk, laidL_snoc])
      have g1 := (hbw.cell (p := ⟨b, off + i, none⟩) hbl).trans hcell
      have HIN := Lib.hid (hints.below hbw (Nat.le_refl _))
      have HPY := Lib.hid hpay
      obtain ⟨p1, _⟩ := hpay
      have HCI := Lib.hid hca
      obtain ⟨p, hp⟩ : ∃ p, p = P.length := ⟨_, rfl⟩
      have HP := Lib.hid hp.symm
      have hsn : endI Rs (i + 1) = endI Rs i + (6 + p) := by unfold endI; rw [HTK.out, List.length_append, putL_len, hp]
      have hyl : endI Rs i ≤ 1030 * 60 := by unfold endI; omega
      have HES := Lib.hid (endL_snoc Rs i)
      rw [hsn] at HES
      have HSN := Lib.hid hsn
      obtain ⟨y, hy⟩ : ∃ y, y = endI Rs i := ⟨_, rfl⟩
      have HY := Lib.hid hy.symm
      rw [← hp] at g1 p1
      rw [← hy] at hyl HOW HSN HES ⊢
      clear hrow hcell hints htk hP hp hown hown2 hbw hca hy hsn hle hle2
      go_wp2_with fail
      refine (put_any Ai ci p P _ HP.out HIN.out HCI.out HPY.out.2 p1).mono ?_
      rintro e2 w2 ⟨A2, k2, rfl, hl2, ho2, hb2⟩
      have hz2 := hb2.size
      have HO2 := Lib.hid ho2
      have HPL := Lib.hid hl2
      have HW2 := Lib.hid (HBW.out.trans (hb2.mono hzy))
      have HX2 := Lib.hid (HOW.out.below hb2)
      have HE2 := Lib.hid (HOE.out.below hb2)
      have HNN := Lib.hid (own_news ho2)
      have HNW := Lib.hid (ints_news (own_ints ho2))
      have k3 : y + (6 + p) ≤ maxLen := by unfold maxLen; omega
      have k4 : (y + (6 + p)) * 1 ≤ 140737488355328 := by omega
      have K8 := Lib.hid (show ((putL P).map (Value.int .u8)).length = (6 + p) * 1 by rw [List.length_map, HPL.out]; omega)
      have k5 : w1.heap.size ≤ w2.heap.size := by omega
      clear hl2 ho2 hb2 g1
      go_upto_region 11 with (at_builtin; refine wpList_append_G_any _ rfl (.tmp 35) (.tmp 36) 22 rfl (IsIntK .u8) w1.heap.size 5 i0 _ 1 1 Try.underlying22 HI0.out HZ0.out HZ1.out HZ2.out rfl (by omega) _ y _ rfl HX2.out A2 (6 + p) k2 ((putL P).map (Value.int .u8)) rfl K8.out HNN.out HNW.out (ints_oneCell .u8 _) k3 k4 k5 HZI.out (ints_all .u8 _) (ints_all .u8 _) ?_; intro v3 w3 hown3 hgrow; have hb3 : Below w1.heap.size w1 w3 := HW2.out.grown hgrow k5 (fun q hq => (HX2.out.1.lt q hq).1); obtain ⟨A3, k3', rfl⟩ := hown3.slice)
      rw [← List.map_append, ← HTK.out] at hown3
      have HO3 := Lib.hid hown3
      have HE3 := Lib.hid (HE2.out.grown hgrow (fun b h1 h2 => own_types_apart HE2.out HX2.out (by decide) b h1 h2.symm))
      have B3 := Lib.hid hb3
      have hz3 := hb3.size
      have k6 : i + 1 ≤ maxLen := by unfold maxLen; omega
      have k7 : (i + 1) * 8 ≤ 140737488355328 := by omega
      have k9 : w1.heap.size ≤ (w3.alloc (.cells #[.int .i64 ((y : Int) + (6 + (p : Int)))] 3)).heap.size := by simp; omega
      have HEA := Lib.hid (HE3.out.alloc (.cells #[.int .i64 ((y : Int) + (6 + (p : Int)))] 3))
      have HOA := Lib.hid (HO3.out.alloc (.cells #[.int .i64 ((y : Int) + (6 + (p : Int)))] 3))
      have HBA := Lib.hid (B3.out.alloc hz3 (.cells #[.int .i64 ((y : Int) + (6 + (p : Int)))] 3))
      have HN1 := Lib.hid (ints_one .i64 ((y : Int) + (6 + (p : Int))))
      clear hown3 hgrow hb3
      go_wp2_with (at_builtin; refine wpList_append_G _ rfl (.tmp 38) (.tmp 41) 42 rfl (IsIntK .i64) w1.heap.size 3 i1 _ 1 8 Try.underlying42 HJ0.out HY0.out HY1.out HY2.out rfl (by omega) _ i _ rfl HEA.out ⟨w3.heap.size, 0, none⟩ 1 1 [.int .i64 ((y : Int) + (6 + (p : Int)))] rfl rfl (World.news_of_block (cs := #[.int .i64 ((y : Int) + (6 + (p : Int)))]) (t := 3) (fr := (0, 0)) (heap_alloc_new w3 _)) HN1.out.1 k6 k7 k9 HYI.out HN1.out.2 (ints_all .i64 _) ?_; intro v4 w4 hown4 hgrow4; have hb4 : Below w1.heap.size w1 w4 := HBA.out.grown hgrow4 k9 (fun q hq => (HEA.out.1.lt q hq).1); obtain ⟨A4, k4', rfl⟩ := hown4.slice)
      have HO4 := Lib.hid (HOA.out.grown hgrow4 (fun b h1 h2 => own_types_apart HOA.out HEA.out (by decide) b h1 h2.symm))
      have hend : OwnG (IsIntK .i64) w4 w1.heap.size 3 1 (.slice A4 (i + 1) k4') (i + 1) ((endL Rs (i + 1)).map (Value.int .i64)) := by
        rw [HES.out, List.map_append]; exact hown4
      have HE4 := Lib.hid hend
      clear hown4 hgrow4 hend
      go_roundg (d - (i + 1))
      case measure => omega
      case rel => exact ⟨i + 1, k3', k4', A3, A4, by omega, rfl, by go_num, by rw [HSN.out], rfl, by rw [HSN.out]; exact HO4.out, HE4.out, hb4⟩
    · obtain rfl : i = d := by omega
      have hii : ¬ (i : Int) < (i : Int) := by omega
      have hta : Rs.take i = Rs := by rw [← HD.out, List.take_length]
      have HT := Lib.hid (show endI Rs i = (laidL Rs).length by unfold endI; rw [hta])
      have HOT := Lib.hid (show OwnG (IsIntK .u8) wy w1.heap.size 5 1 (.slice X (endI Rs i) c) (endI Rs i) ((laidL Rs).map (Value.int .u8)) by have := HOW.out; rw [hta] at this; exact this)
      have hTl : endI Rs i ≤ 1030 * 60 := by unfold endI; omega
      obtain ⟨T, hT⟩ : ∃ T, T = endI Rs i := ⟨_, rfl⟩
      have HTE := Lib.hid hT.symm
      rw [← hT] at HT HOT hTl ⊢
      obtain ⟨hTc, hXc⟩ := own_cap HOT.out
      have HXC := Lib.hid hXc
      have HIT := Lib.hid (own_ints HOT.out)
      have HIE := Lib.hid (own_ints HOE.out)
      have HUT := Lib.hid (laidL_u8 HPA.out)
      have hcE := (own_cap HOE.out).1
      clear hown hown2 hbw hta hle hle2 hT hXc HOW HOE
      go_wp2_with fail
      refine (pick_any cut ((T : Int) + 1) _ c1 c2 (by omega) (by omega)).mono ?_
      rintro e5 wq ⟨rfl, rfl⟩
      obtain ⟨a, ha⟩ : ∃ a : Nat, cut % ((T : Int) + 1) = (a : Int) := ⟨(cut % ((T : Int) + 1)).toNat, by have := Int.emod_nonneg cut (show ((T : Int) + 1) ≠ 0 by omega); omega⟩
      have hal : a ≤ T := by have := Int.emod_lt_of_pos cut (show 0 < ((T : Int) + 1) by omega); omega
      rw [ha]
      clear ha
      go_wp2_with fail
      go_loopg [10, 11] i (fun gm nv tv wr => ∃ k t : Nat, k ≤ i ∧ gm = i - k ∧ nv = .int .i64 k ∧ tv = .int .i64 t ∧ t = endI Rs k ∧ t ≤ a ∧ wy = wr)
      case atStart => exact ⟨0, 0, by omega, rfl, rfl, rfl, rfl, by omega, rfl⟩
      case round =>
        obtain ⟨k, t, hk, rfl, rfl, rfl, ht, hta, rfl⟩ := hrel
        have HTT := Lib.hid ht
        clear ht
        by_cases hgo : k < i ∧ endI Rs (k + 1) ≤ a
        · obtain ⟨hki, hea⟩ := hgo
          obtain ⟨b, off, rfl, hbl, hce⟩ := HIE.out (by rw [endL_len]; omega)
          have g1 := hce k (by rw [endL_len]; exact hki)
          rw [endL_get Rs hki] at g1
          obtain ⟨z, hz⟩ : ∃ z, z = endI Rs (k + 1) := ⟨_, rfl⟩
          rw [← hz] at g1 hea
          have HZ := Lib.hid hz
          have hk1 : (k : Int) < (i : Int) := by omega
          have hk0 : (0 : Int) ≤ (k : Int) := by omega
          have hza : (z : Int) ≤ (a : Int) := by omega
          clear hce hz
          go_wp2_with fail
          go_roundg (i - (k + 1))
          case measure => omega
          case rel => exact ⟨k + 1, z, by omega, rfl, by go_num, rfl, HZ.out, hea, rfl⟩
        · have hstop : k = i ∨ a < endI Rs (k + 1) := by omega
          have HSP := Lib.hid hstop
          go_upto_region 14 with fail
          go_cut [59] (fun s59 wx => s59 = .bool false ∧ wy = wx)
          case first =>
            by_cases hki : k < i
            · have hea : ¬ endI Rs (k + 1) ≤ a := by omega
              obtain ⟨b, off, rfl, hbl, hce⟩ := HIE.out (by rw [endL_len]; omega)
              have g1 := hce k (by rw [endL_len]; exact hki)
              rw [endL_get Rs hki] at g1
              obtain ⟨z, hz⟩ : ∃ z, z = endI Rs (k + 1) := ⟨_, rfl⟩
              rw [← hz] at g1 hea
              have hk1 : (k : Int) < (i : Int) := by omega
              have hk0 : (0 : Int) ≤ (k : Int) := by omega
              have hza : ¬ (z : Int) ≤ (a : Int) := by omega
              clear hce hz hgo hstop
              go_wp2_with fail
              go_meet
              exact ⟨rfl, rfl⟩
            · have hk1 : ¬ (k : Int) < (i : Int) := by omega
              clear hgo hstop
              go_wp2_with fail
              go_meet
              exact ⟨rfl, rfl⟩
          case rest =>
          obtain ⟨rfl, rfl⟩ := hcut
          clear hgo hstop
          have hac : a ≤ c := by omega
          have hkk : k ≤ kB := by omega
          have hac' : (a : Int) ≤ (c : Int) := by omega
          have hkk' : (k : Int) ≤ (kB : Int) := by omega
          have hsc := scan_cut HPA.out (c := a) (k := k) (by rw [HD.out]; exact hk) (by have := HTT.out; unfold endI at this; omega) (by rw [HD.out]; exact HSP.out)
          have HS1 := Lib.hid (show (scanF ((laidL Rs).take a)).1 = Rs.take k by rw [hsc])
          have HS2 := Lib.hid (show (scanF ((laidL Rs).take a)).2 = t by rw [hsc, HTT.out]; rfl)
          have HS3 := Lib.hid (show (scanF (laidL Rs)).1 = Rs by rw [scan_whole HPA.out])
          have HS4 := Lib.hid (show (scanF (laidL Rs)).2 = T by rw [scan_whole HPA.out, HT.out])
          have HKL := Lib.hid (show (Rs.take k).length = k by rw [List.length_take, HD.out]; omega)
          have HPL := Lib.hid (show ∀ P ∈ Rs, P.length ≤ 140737488351232 from fun P hP => by have := (HPA.out P hP).1; omega)
          have HTL := Lib.hid (show ((laidL Rs).take a).length = a by rw [List.length_take, ← HT.out]; omega)
          clear hsc
          go_wp2_with fail
          refine (scan_any X a c ((laidL Rs).take a) _ HTL.out (ints_take HIT.out a) (fun x hx => HUT.out x (List.mem_of_mem_take hx)) (by omega) hac HXC.out).mono ?_
          rw [HS1.out, HS2.out]
          rintro e6 w6 ⟨A6, k6, rfl, ho6, hb6⟩
          have hz6 := hb6.size
          have HG6 := Lib.hid ho6.at_
          have B6 := Lib.hid (HBW.out.trans (hb6.mono hzy))
          have HI6 := Lib.hid (HIT.out.below hb6 (Nat.le_refl _))
          rw [HKL.out]
          clear ho6 hb6
          go_wp2_with fail
          refine (scan_any X T c (laidL Rs) _ HT.out.symm HI6.out HUT.out (by omega) hTc HXC.out).mono ?_
          rw [HS3.out, HS4.out]
          rintro e7 w7 ⟨A7, k7, rfl, ho7, hb7⟩
          have hz7 := hb7.size
          have HG7 := Lib.hid (HG6.out.below hb7 (Nat.le_refl _))
          have HW7 := Lib.hid ho7.at_
          have B7 := Lib.hid (B6.out.trans (hb7.mono (by have := B6.out.size; omega)))
          rw [HD.out]
          clear ho7 hb7
          have hzz := B7.out.size
          go_wp2_with fail
          refine (rows_yes A6 B k6 kB k (Rs.take k) _ HKL.out HG7.out ((rows_take HR1.out k).below B7.out (Nat.le_refl _)) (by omega) (fun j hj => HPL.out _ (List.mem_of_mem_take (getD_mem (by rw [HKL.out]; exact hj))))).mono ?_
          rintro e8 w8 ⟨rfl, hb8⟩
          have B8 := Lib.hid (B7.out.trans (hb8.mono hzz))
          have HW8 := Lib.hid (HW7.out.below hb8 (Nat.le_refl _))
          have hz8 := B8.out.size
          clear hb8
          go_wp2_with fail
          refine (rows_yes A7 B k7 kB i Rs _ HD.out HW8.out (HR1.out.below B8.out (Nat.le_refl _)) (by omega) (fun j hj => HPL.out _ (getD_mem (by rw [HD.out]; exact hj)))).mono ?_
          rintro e9 w9 ⟨rfl, hb9⟩
          have B9 := Lib.hid (B8.out.trans (hb9.mono hz8))
          clear hb9
          go_wp2_with fail
          refine (known_any _).mono ?_
          rintro e10 w10 ⟨rfl, hb10⟩
          have HWX := Lib.hid (B1.out.trans ((B9.out.trans (hb10.mono B9.out.size)).mono hz1))
          clear hb10
          go_wp2_with fail
          go_ret
          exact ⟨rfl, HWX.out⟩

theorem own : ownKnob Try.prog.godebug = none := by kernel_rfl

set_option maxRecDepth 100000 in
theorem lifted (os : Os) (started : os.Started) (H : Type) (enc : TypeId × Value → H) :
    ReturnsInHanded {} Try.checked os 7 .any (Rows.chunkCutSpec.pre6 enc Try.prog Try.f7 Rows.chunkCutRow.domain false) (Rows.chunkCutSpec.post enc Try.prog Try.f7 false true false false) := by
  refine law_lifted (C := Try.checked) (tb := 4) own started (by kernel_rfl) Try.func7
    (ChangeSpec.witness6 (enc := enc) (C := Try.checked) false ⟨#[], #[.slice none 0 0, .int .i64 0], []⟩ 8 (by kernel_rfl) (by kernel_rfl) (by kernel_rfl) (by kernel_rfl))
    rfl (by kernel_rfl) (by kernel_rfl) (by kernel_rfl) Try.underlying4 (fun ds h => ?_) ?_
  · rw [show Try.f7.params = #[35, 3] from Try.params7] at h
    match ds, h with
    | [_, _], _ => rfl
  · intro W base args ds before hval hA hlt hsz
    rw [show Try.f7.params = #[35, 3] from Try.params7] at hA hval hsz
    obtain ⟨v0, vs0, d0, ds0, p0, q0, hargs, rfl, rfl, h0, r0⟩ := trodAll_cons hA
    obtain ⟨v1, vs1, d1, ds1, p1, q1, rfl, rfl, rfl, h1, r1⟩ := trodAll_cons r0
    obtain ⟨rfl, rfl, rfl⟩ := trodAll_nil r1
    obtain rfl : args = #[v0, v1] := by cases args; simp_all
    obtain ⟨A, cap, Ls, rfl, hn, hr, hu, hl⟩ := open_rows (hval 0 _ v0 rfl rfl) h0
    obtain ⟨x1, rfl, rfl, rfl, wf1⟩ := open_int Try.underlying3 (hval 1 _ v1 rfl rfl) h1
    have g1 : -9223372036854775808 ≤ x1 ∧ x1 ≤ 9223372036854775807 := by simpa [Lit.wf, IntKind.min, IntKind.max, IntKind.signed, IntKind.bits] using wf1
    exact walk A Ls.length cap Ls x1 W rfl hr hn hl hu g1.1 g1.2

theorem proved : Rows.ChunkCutSaid :=
  OpenClaim.holds_of_wide 7 Try.f7 rfl rfl rfl rfl rfl rfl rfl ⟨rfl, rfl, rfl, rfl, rfl⟩ rfl rfl rfl rfl rfl (by kernel_rfl) Try.func7 (by kernel_rfl)
    (of_decide_eq_true (by kernel_rfl)) (by unfold Func.isWrapper; rw [if_neg (of_decide_eq_false (by kernel_rfl))]; exact ⟨rfl, rfl⟩)
    (fun os started H enc _ => lifted os started H enc)
#print axioms proved
end ChunkCut
end Go.Proofs.Ytjpbmapnagkonaa
