/-
  What is proved here: the law ChunkLays returns true for all it is given. Conditions: what it is given is of bulk at most 1048576 (the second form).
-/
import Derived.Test.YtjpbmapnagkonaaChkKit
import Derived.Test.YtjpbmapnagkonaaChkLent
namespace Go.Proofs.Ytjpbmapnagkonaa
namespace ChunkLays
open Go.ChangeShapes Go.WideShapes Go.ChangeAt Go.RowKit Go.Deep Go.Joins

set_option maxRecDepth 100000 in
set_option maxHeartbeats 8000000 in
theorem walk (A : Option Addr) (n cap : Nat) (L : List Int) (w : World) (hln : L.length = n) (hA : IntsAt .u8 w A L) (hL : ∀ x ∈ L, U8 x) (hcA : A = none → cap = 0) (hcap : n ≤ cap) (hn : n ≤ 1048576) :
    Calls Try.prog 6 #[.slice A n cap] w fun e w' => e = .returned (.bool true) ∧ Below w.heap.size w w' := by
  have HA := Lib.hid hA
  have HL := Lib.hid hL
  have HN := Lib.hid hln
  have HCA := Lib.hid hcA
  obtain ⟨⟨P, m, e⟩, hg⟩ : ∃ p, p = getTo L := ⟨_, rfl⟩
  obtain ⟨⟨Q, f⟩, hq⟩ : ∃ p, p = putO L := ⟨_, rfl⟩
  obtain ⟨⟨Ps, s⟩, hs⟩ : ∃ p, p = scanF L := ⟨_, rfl⟩
  have HG := Lib.hid hg.symm
  have HQ := Lib.hid hq.symm
  have HS1 := Lib.hid (show (scanF L).1 = Ps by rw [← hs])
  have HS2 := Lib.hid (show (scanF L).2 = s by rw [← hs])
  have hpl := getTo_len hg.symm
  have hql := putO_len hq.symm
  have hsl := scanN_count (L.length + 1) L
  have hrl := scanN_len (L.length + 1) L
  rw [show scanN (L.length + 1) L = (Ps, s) from hs.symm] at hsl hrl
  have HRL := Lib.hid (show ∀ i, i < Ps.length → (Ps.getD i []).length ≤ 140737488351232 from fun i hi => by
    have := hrl (Ps.getD i []) (by rw [List.getD_eq_getElem?_getD, List.getElem?_eq_getElem hi]; simp)
    omega)
  have HSL := Lib.hid hsl
  have HPL := Lib.hid hpl
  have HQL := Lib.hid hql
  clear hA hL hln hcA hg hq hs hrl hsl hpl hql
  go_enter Try.func6, Try.ntmps6
  go_wp2_with fail
  refine (lent_to A n cap L _ HN.out HA.out (by omega)).mono ?_
  rintro e1 w1 ⟨g, rfl, hwg, hrow, hb1⟩
  have HR1 := Lib.hid hrow
  have HI1 := Lib.hid (Bytes.lent_begin hrow)
  have B1 := Lib.hid hb1
  have hz1 := hb1.size
  have ZI := Lib.hid (zone_row hrow hwg (show n ≤ n + 5 by omega) (by omega) (by omega))
  clear hrow hb1
  go_wp2_with fail
  refine (put_all _ n (n + 5) L Q f _ HQ.out HN.out HI1.out (fun h => by cases h) HL.out (by omega)).mono ?_
  rintro e2 w2 ⟨A2, k2, rfl, _, ho2, hb2⟩
  have hz2 := hb2.size
  have HI2 := Lib.hid (HI1.out.below hb2 (Nat.le_refl _))
  have HR2 := Lib.hid (HR1.out.below hb2 HR1.out.lt)
  have ZI2 := Lib.hid (ZI.out.below hb2)
  have ZP := Lib.hid (zone_own rfl ho2 (by have := HQL.out; omega))
  have RP := Lib.hid (reads_of_own ho2)
  have B2 := Lib.hid (B1.out.trans (hb2.mono B1.out.size))
  clear hb2 ho2
  go_wp2_with fail
  refine (rput_all A n cap L Q f _ HQ.out HN.out (HA.out.below B2.out (Nat.le_refl _)) HCA.out HL.out).mono ?_
  rintro e3 w3 ⟨A3, k3, rfl, _, ho3, hb3⟩
  have hz3 := hb3.size
  have HI3 := Lib.hid (HI2.out.below hb3 (Nat.le_refl _))
  have HR3 := Lib.hid (HR2.out.below hb3 HR2.out.lt)
  have ZI3 := Lib.hid (ZI2.out.below hb3)
  have ZP3 := Lib.hid (ZP.out.below hb3)
  have RP3 := Lib.hid (RP.out.below hb3)
  have RQ := Lib.hid (reads_of_own ho3)
  have B3 := Lib.hid (B2.out.trans (hb3.mono B2.out.size))
  clear hb3 ho3
  go_wp2_with fail
  refine (get_to _ n (n + 5) L P P.length m e _ HG.out rfl HN.out HI3.out HL.out (by omega) (by omega)).mono ?_
  rintro e4 w4 ⟨A4, k4, rfl, _, ho4, hb4⟩
  have hz4 := hb4.size
  have HI4 := Lib.hid (HI3.out.below hb4 (Nat.le_refl _))
  have HR4 := Lib.hid (HR3.out.below hb4 HR3.out.lt)
  have ZI4 := Lib.hid (ZI3.out.below hb4)
  have ZP4 := Lib.hid (ZP3.out.below hb4)
  have ZX := Lib.hid (zone_own rfl ho4 (by have := HPL.out; have := HN.out; omega))
  have RX := Lib.hid (reads_of_own ho4)
  have B4 := Lib.hid (B3.out.trans (hb4.mono B3.out.size))
  have RP4 := Lib.hid (RP3.out.below hb4)
  have RQ4 := Lib.hid (RQ.out.below hb4)
  clear hb4 ho4
  go_wp2_with fail
  refine (rget_to A n cap L P P.length m e _ HG.out rfl HN.out (HA.out.below B4.out (Nat.le_refl _)) HL.out (by omega) hcap).mono ?_
  rintro e5 w5 ⟨A5, k5, rfl, _, ho5, hb5⟩
  have hz5 := hb5.size
  have HI5 := Lib.hid (HI4.out.below hb5 (Nat.le_refl _))
  have HR5 := Lib.hid (HR4.out.below hb5 HR4.out.lt)
  have ZI5 := Lib.hid (ZI4.out.below hb5)
  have ZP5 := Lib.hid (ZP4.out.below hb5)
  have ZX5 := Lib.hid (ZX.out.below hb5)
  have RX5 := Lib.hid (RX.out.below hb5)
  have RY := Lib.hid (reads_of_own ho5)
  have RP5 := Lib.hid (RP4.out.below hb5)
  have RQ5 := Lib.hid (RQ4.out.below hb5)
  have B5 := Lib.hid (B4.out.trans (hb5.mono B4.out.size))
  clear hb5 ho5
  go_wp2_with fail
  refine (scan_any (some ⟨g, 0, none⟩) n (n + 5) L _ HN.out HI5.out HL.out (by omega) (by omega) (fun h => by cases h)).mono ?_
  rw [HS1.out, HS2.out]
  rintro e6 w6 ⟨A6, k6, rfl, ho6, hb6⟩
  have hz6 := hb6.size
  have HR6 := Lib.hid (HR5.out.below hb6 HR5.out.lt)
  have ZI6 := Lib.hid (ZI5.out.below hb6)
  have ZP6 := Lib.hid (ZP5.out.below hb6)
  have ZX6 := Lib.hid (ZX5.out.below hb6)
  have RX6 := Lib.hid (RX5.out.below hb6)
  have RY6 := Lib.hid (RY.out.below hb6)
  have RP6 := Lib.hid (RP5.out.below hb6)
  have RQ6 := Lib.hid (RQ5.out.below hb6)
  have HO6 := Lib.hid ho6
  have B6 := Lib.hid (B5.out.trans (hb6.mono B5.out.size))
  clear hb6 ho6
  go_wp2_with fail
  refine (rscan_any A n cap L _ HN.out (HA.out.below B6.out (Nat.le_refl _)) HL.out (by omega) hcap HCA.out).mono ?_
  rw [HS1.out, HS2.out]
  rintro e7 w7 ⟨A7, k7, rfl, ho7, hb7⟩
  have hz7 := hb7.size
  have HR7 := Lib.hid (HR6.out.below hb7 HR6.out.lt)
  have ZI7 := Lib.hid (ZI6.out.below hb7)
  have ZP7 := Lib.hid (ZP6.out.below hb7)
  have ZX7 := Lib.hid (ZX6.out.below hb7)
  have RX7 := Lib.hid (RX6.out.below hb7)
  have RY7 := Lib.hid (RY6.out.below hb7)
  have RP7 := Lib.hid (RP6.out.below hb7)
  have RQ7 := Lib.hid (RQ6.out.below hb7)
  have HO7 := Lib.hid (HO6.out.below hb7)
  have HA7 := Lib.hid ho7.at_
  have B7 := Lib.hid (B6.out.trans (hb7.mono B6.out.size))
  clear hb7 ho7
  obtain ⟨d, hd⟩ : ∃ d, d = Ps.length := ⟨_, rfl⟩
  have HD := Lib.hid hd.symm
  rw [← hd]
  have hdl : d ≤ 1048577 := by have := HSL.out; have := HN.out; rw [HD.out] at *; omega
  clear hd
  go_wp2_with fail
  refine (Bytes.same_yes (L := Q) RP7.out RQ7.out (by have := HQL.out; omega)).mono ?_
  rintro e8 w8 ⟨rfl, hb8⟩
  have hz8 := hb8.size
  have B8 := Lib.hid (B7.out.trans (hb8.mono B7.out.size))
  have N8 := Lib.hid hb8
  clear hb8
  go_wp2_with fail
  refine (Bytes.same_yes (L := P) (RX7.out.below N8.out) (RY7.out.below N8.out) (by have := HPL.out; have := HN.out; omega)).mono ?_
  rintro e9 w9 ⟨rfl, hb9⟩
  have hz9 := hb9.size
  have N9 := Lib.hid (N8.out.trans (hb9.mono N8.out.size))
  have B9 := Lib.hid (B8.out.trans (hb9.mono B8.out.size))
  clear hb9
  go_wp2_with fail
  refine (rows_yes A6 A7 k6 k7 d Ps _ HD.out (HO7.out.at_.below N9.out (Nat.le_refl _)) (HA7.out.below N9.out (Nat.le_refl _)) (by omega) (fun i hi => HRL.out i (by rw [HD.out]; exact hi))).mono ?_
  rintro e10 w10 ⟨rfl, hb10⟩
  have hz10 := hb10.size
  have N10 := Lib.hid (N9.out.trans (hb10.mono N9.out.size))
  have B10 := Lib.hid (B9.out.trans (hb10.mono B9.out.size))
  have ZIa := Lib.hid (ZI7.out.below N10.out)
  have ZPa := Lib.hid (ZP7.out.below N10.out)
  have ZXa := Lib.hid (ZX7.out.below N10.out)
  have HRa := Lib.hid (HR7.out.below N10.out HR7.out.lt)
  have HOa := Lib.hid (HO7.out.below N10.out)
  clear hb10 B2 B3 B4 B5 B6 B7 B8 B9 N8 N9 N10 RX7 RY7 RP7 RQ7 HA7 HO7 HO6 ZI7 ZP7 ZX7 HR7
  by_cases hpos : 0 < d
  · have hpi : (0 : Int) < (d : Int) := by omega
    obtain ⟨g0, A0, c0, rfl, hgl, hcell, hown⟩ := rows_first HOa.out (by rw [HD.out]; exact hpos)
    obtain ⟨p0, hp0⟩ : ∃ p, p = (Ps.getD 0 []).length := ⟨_, rfl⟩
    have hp0l := HRL.out 0 (by rw [HD.out]; exact hpos)
    rw [← hp0] at hcell hown hp0l
    have Z0 := Lib.hid (zone_own hp0.symm hown hp0l)
    have Z0a := Lib.hid (Z0.out.below ((Below.refl _ _).alloc (Nat.le_refl _) (.cells #[.slice A0 p0 c0, .slice A4 P.length k4, .slice A2 Q.length k2, .slice (some ⟨g, 0, none⟩) n (n + 5)] 22)))
    have ZIb := Lib.hid (ZIa.out.below ((Below.refl _ _).alloc (Nat.le_refl _) (.cells #[.slice A0 p0 c0, .slice A4 P.length k4, .slice A2 Q.length k2, .slice (some ⟨g, 0, none⟩) n (n + 5)] 22)))
    have ZPb := Lib.hid (ZPa.out.below ((Below.refl _ _).alloc (Nat.le_refl _) (.cells #[.slice A0 p0 c0, .slice A4 P.length k4, .slice A2 Q.length k2, .slice (some ⟨g, 0, none⟩) n (n + 5)] 22)))
    have ZXb := Lib.hid (ZXa.out.below ((Below.refl _ _).alloc (Nat.le_refl _) (.cells #[.slice A0 p0 c0, .slice A4 P.length k4, .slice A2 Q.length k2, .slice (some ⟨g, 0, none⟩) n (n + 5)] 22)))
    have Bb := Lib.hid (B10.out.alloc (by omega) (.cells #[.slice A0 p0 c0, .slice A4 P.length k4, .slice A2 Q.length k2, .slice (some ⟨g, 0, none⟩) n (n + 5)] 22))
    clear hown hp0
    go_wp2_with fail
    refine (apart_zone w.heap.size w10.heap.size 4 [(.slice A0 p0 c0, p0, w5.heap.size, w10.heap.size), (.slice A4 P.length k4, P.length, w3.heap.size, w4.heap.size), (.slice A2 Q.length k2, Q.length, w1.heap.size, w2.heap.size), (.slice (some ⟨g, 0, none⟩) n (n + 5), n, w.heap.size, w1.heap.size)] _ ?_ ?_ ?_ (by simp) (by simp; omega) (by simp)).mono ?_
    · intro x hx
      simp only [List.mem_cons, List.not_mem_nil, or_false] at hx
      rcases hx with rfl | rfl | rfl | rfl
      · exact ⟨Z0a.out, by show w.heap.size ≤ w5.heap.size; omega, Nat.le_refl _⟩
      · exact ⟨ZXb.out, by show w.heap.size ≤ w3.heap.size; omega, by show w4.heap.size ≤ w10.heap.size; omega⟩
      · exact ⟨ZPb.out, by show w.heap.size ≤ w1.heap.size; omega, by show w2.heap.size ≤ w10.heap.size; omega⟩
      · exact ⟨ZIb.out, Nat.le_refl _, by show w1.heap.size ≤ w10.heap.size; omega⟩
    · simp
      omega
    · intro i hi
      match i, hi with
      | 0, _ => exact (Blk.new w10 22 _).cell 0
      | 1, _ => exact (Blk.new w10 22 _).cell 1
      | 2, _ => exact (Blk.new w10 22 _).cell 2
      | 3, _ => exact (Blk.new w10 22 _).cell 3
    rintro e11 w11 ⟨rfl, hb11⟩
    have Bc := Lib.hid (Bb.out.trans hb11)
    clear hb11
    go_wp2_with fail
    go_ret
    exact ⟨rfl, Bc.out⟩
  · have hpi : ¬ (0 : Int) < (d : Int) := by omega
    obtain rfl : d = 0 := by omega
    go_wp2_with fail
    refine (kept_to g n (n + 5) cap A L _ HN.out HRa.out (HA.out.below B10.out (Nat.le_refl _)) (by omega) rfl).mono ?_
    rintro e11 w11 ⟨rfl, hb11⟩
    have hz11 := hb11.size
    have B11 := Lib.hid (B10.out.trans (hb11.mono B10.out.size))
    have ZIb := Lib.hid ((ZIa.out.below hb11).below ((Below.refl _ _).alloc (Nat.le_refl _) (.cells #[.slice A2 Q.length k2, .slice A4 P.length k4, .slice (some ⟨g, 0, none⟩) n (n + 5)] 22)))
    have ZPb := Lib.hid ((ZPa.out.below hb11).below ((Below.refl _ _).alloc (Nat.le_refl _) (.cells #[.slice A2 Q.length k2, .slice A4 P.length k4, .slice (some ⟨g, 0, none⟩) n (n + 5)] 22)))
    have ZXb := Lib.hid ((ZXa.out.below hb11).below ((Below.refl _ _).alloc (Nat.le_refl _) (.cells #[.slice A2 Q.length k2, .slice A4 P.length k4, .slice (some ⟨g, 0, none⟩) n (n + 5)] 22)))
    have Bb := Lib.hid (B11.out.alloc (by omega) (.cells #[.slice A2 Q.length k2, .slice A4 P.length k4, .slice (some ⟨g, 0, none⟩) n (n + 5)] 22))
    clear hb11
    go_wp2_with fail
    refine (apart_zone w.heap.size w11.heap.size 3 [(.slice A2 Q.length k2, Q.length, w1.heap.size, w2.heap.size), (.slice A4 P.length k4, P.length, w3.heap.size, w4.heap.size), (.slice (some ⟨g, 0, none⟩) n (n + 5), n, w.heap.size, w1.heap.size)] _ ?_ ?_ ?_ (by simp) (by simp; omega) (by simp)).mono ?_
    · intro x hx
      simp only [List.mem_cons, List.not_mem_nil, or_false] at hx
      rcases hx with rfl | rfl | rfl
      · exact ⟨ZPb.out, by show w.heap.size ≤ w1.heap.size; omega, by show w2.heap.size ≤ w11.heap.size; omega⟩
      · exact ⟨ZXb.out, by show w.heap.size ≤ w3.heap.size; omega, by show w4.heap.size ≤ w11.heap.size; omega⟩
      · exact ⟨ZIb.out, Nat.le_refl _, by show w1.heap.size ≤ w11.heap.size; omega⟩
    · simp
      omega
    · intro i hi
      match i, hi with
      | 0, _ => exact (Blk.new w11 22 _).cell 0
      | 1, _ => exact (Blk.new w11 22 _).cell 1
      | 2, _ => exact (Blk.new w11 22 _).cell 2
    rintro e12 w12 ⟨rfl, hb12⟩
    have Bc := Lib.hid (Bb.out.trans hb12)
    clear hb12
    go_wp2_with fail
    go_ret
    exact ⟨rfl, Bc.out⟩

theorem own : ownKnob Try.prog.godebug = none := by kernel_rfl

set_option maxRecDepth 100000 in
theorem lifted (os : Os) (started : os.Started) (H : Type) (enc : TypeId × Value → H) (F : Stop.Interp) :
    ReturnsInHanded {} Try.checked os 6 .any ((Rows.OpenSpec.upto Rows.chunkLaysSpec).pre6 enc Try.prog Try.f6 Rows.chunkLaysUptoRow.domain false) (((Rows.OpenSpec.upto Rows.chunkLaysSpec).at F).post enc Try.prog Try.f6 false true false false) := by
  refine law_lifted_upto (C := Try.checked) (s := Rows.chunkLaysSpec) (tb := 4) own started (by kernel_rfl) Try.func6
    (OpenSpec.witness (enc := enc) (C := Try.checked) (s := Rows.OpenSpec.upto Rows.chunkLaysSpec) (k := Rows.uptoSmall) rfl false ⟨#[], #[.slice none 0 0], []⟩ 8 (by kernel_rfl) (by kernel_rfl) (by kernel_rfl) (x := ([.nil], [], [])) (by kernel_rfl) rfl (by kernel_rfl))
    rfl (by kernel_rfl) (by kernel_rfl) (by kernel_rfl) Try.underlying4 (fun ds h => ?_) ?_
  · rw [show Try.f6.params = #[22] from Try.params6] at h
    match ds, h with
    | [_], _ => rfl
  · intro W base args ds before hval hA hlt hsz hup
    rw [show Try.f6.params = #[22] from Try.params6] at hA hval hsz
    obtain ⟨v0, vs0, d0, ds0, p0, q0, hargs, rfl, rfl, h0, r0⟩ := trodAll_cons hA
    obtain ⟨rfl, rfl, rfl⟩ := trodAll_nil r0
    obtain rfl : args = #[v0] := by cases args; simp_all
    obtain ⟨A, cap, L, rfl, hc, hc2, iA, iL, icA⟩ := open_bytes (j := 0) (hval 0 _ v0 rfl rfl) h0 hsz rfl rfl
    exact walk A L.length cap L W rfl iA iL icA hc (open_bulk h0 (Nat.le_trans (bulk_part (by simp)) hup))

theorem proved : Rows.ChunkLaysUptoSaid :=
  OpenClaim.holds_of_cond 6 Try.f6 rfl rfl rfl rfl rfl rfl rfl ⟨rfl, rfl, rfl, rfl, rfl⟩ rfl rfl rfl rfl rfl (by kernel_rfl) Try.func6 (by kernel_rfl)
    (of_decide_eq_true (by kernel_rfl)) (by unfold Func.isWrapper; rw [if_neg (of_decide_eq_false (by kernel_rfl))]; exact ⟨rfl, rfl⟩)
    (fun os started H enc _ F => lifted os started H enc F)
#print axioms proved
end ChunkLays
end Go.Proofs.Ytjpbmapnagkonaa
