/-
  What is proved here: the law ChunkKnown returns true. Conditions: none.
-/
import Derived.Test.YtjpbmapnagkonaaChkPre
import Derived.Deep.RegionHeld3
namespace Go.Proofs.Ytjpbmapnagkonaa
namespace ChunkKnown
open Go.ChangeShapes Go.WideShapes Go.ChangeAt Go.RowKit Go.Deep Go.Joins

theorem step_append_G {P : Program} {w : World} {ops : Array Oper} {o : Oper} {a : Act} {K : Act → World → Prop} {Q : Exit → Act → World → Prop} {E : Prop} (hgd : o.guard = none) (s x : Operand) (t : TypeId)
    (ho : o.op = .call { callee := .builtin .append, args := #[s, x], argTypes := #[t, t] })
    (Good : Value → Prop) (base : Nat) (e : TypeId) (i : TypeInfo) (z : Value) (size bytes : Nat) (ht : P.underlying t = some (.slice e)) (hi : P.info? e = some i) (hz : i.zero = some z)
    (hsize : i.size = size) (hby : i.bytes = bytes) (hzs : z.cells.size = size) (hsz : 0 < size)
    (v : Value) (n : Nat) (xs : List Value) (hs : a.eval s = v) (hown : OwnG Good w base e size v n xs)
    (ad : Addr) (m c : Nat) (news : List Value) (hx : a.eval x = .slice (some ad) m c) (hl : news.length = m * size) (hnews : ∀ j u, news[j]? = some u → w.cell? (ad.add j) = some u) (h1 : ∀ u ∈ news, u.oneCell' = true)
    (h63 : n + m ≤ maxLen) (hbytes : (n + m) * bytes ≤ 140737488355328) (hbase : base ≤ w.heap.size)
    (gz : ∀ u ∈ z.cells.toList, Good u) (gn : ∀ u ∈ news, Good u) (gx : ∀ u ∈ xs, Good u)
    (h : ∀ v' w', OwnG Good w' base e size v' (n + m) (xs ++ news) → w.grownBy w' v.ownBlock → K (a.put o.dst v') w') :
    if Region.wanted o (yielded ops a.tmps) = true then Oper.wp P o a w K Q else E := by
  have hw : Region.wanted o (yielded ops a.tmps) = true := by simp [Region.wanted, hgd]
  rw [if_pos hw]
  obtain ⟨v', w', hr, h2, h3⟩ := run_append_G (P := P) w Good base t o.type e i z size bytes ht hi hz hsize hby hzs hsz v n xs hown ad m c news hl hnews h1 h63 hbytes hbase gz gn gx
  unfold Oper.wp execOp
  simp only [ho, resolve, invoke, builtin, Sem.run_bind, Sem.run_pure, Result.andThen_ok, List.map_toArray, List.map_cons, List.map_nil, hs, hx, hr]
  exact h v' w' h2 h3

def pa : List Int := [97]
def pb : List Int := [98, 99]
theorem pa_u8 : ∀ x ∈ pa, U8 x := by intro x hx; simp [pa] at hx; rw [hx]; exact ⟨by decide, by decide⟩
theorem pb_u8 : ∀ x ∈ pb, U8 x := by intro x hx; simp [pb] at hx; rcases hx with rfl | rfl <;> exact ⟨by decide, by decide⟩
def zeros : List Int := List.replicate 1024 0
theorem zeros_u8 : ∀ x ∈ zeros, U8 x := fun x hx => by rw [(List.mem_replicate.1 hx).2]; exact ⟨by decide, by decide⟩
theorem zeros_len : zeros.length = 1024 := List.length_replicate ..
theorem zeros_head : (putL zeros).getD 0 0 = 4 := by
  show ((zeros.length : Int)) / 256 = 4
  rw [zeros_len]
  rfl
theorem ab_pay : ∀ P ∈ [pa, pb], Pay P := by
  intro P hP
  simp at hP
  rcases hP with rfl | rfl
  · exact ⟨by decide, pa_u8⟩
  · exact ⟨by decide, pb_u8⟩
theorem scan_abc : scanF (putL pa ++ putL pb ++ (putL pb).take 4) = ([pa, pb], 15) :=
  scan_of_laid [pa, pb] ((putL pb).take 4) ab_pay (fun x hx => putL_u8 pb_u8 (by decide) x (List.mem_of_mem_take hx)) (get_cut ⟨by decide, pb_u8⟩ (by decide))
theorem scan_bad : scanF ((putL pa).set 6 98 ++ putL pb) = ([], 0) := scanF_stop (by
  have : getTo ((putL pa).set 6 98 ++ putL pb) = ([], 0, 5) := by kernel_rfl
  rw [this]
  decide)
theorem copy_to (A : Option Addr) (n cap : Nat) (L : List Int) (w : World) (hn : L.length = n) (hA : IntsAt .u8 w A L) (hlen : n ≤ 140737488351232) :
    Calls Try.prog 13 #[.slice A n cap] w fun e w' => ∃ B c, e = .returned (.slice B n c) ∧ OwnG (IsIntK .u8) w' w.heap.size 5 1 (.slice B n c) n (L.map (Value.int .u8)) ∧ Below w.heap.size w w' := by
  subst hn
  refine (Bytes.copy_any A cap L w hA (by omega)).mono ?_
  rintro e w' ⟨v, rfl, ho, hb⟩
  obtain ⟨B, c, rfl⟩ := ho.slice
  exact ⟨B, c, rfl, ho, hb⟩
theorem scan_to (A : Option Addr) (n cap : Nat) (L : List Int) (Ps : List (List Int)) (s : Nat) (w : World) (h1 : (scanF L).1 = Ps) (h2 : (scanF L).2 = s) (hln : L.length = n) (hA : IntsAt .u8 w A L) (hL : ∀ x ∈ L, U8 x) (hn : n ≤ 1099511627776) (hcap : n ≤ cap) (hcA : A = none → cap = 0) :
    Calls Try.prog 18 #[.slice A n cap] w (ScanBack Ps s w) := by
  subst h1 h2
  exact scan_any A n cap L w hln hA hL hn hcap hcA
theorem ints_take {k : IntKind} {w : World} {A : Option Addr} {L : List Int} (h : IntsAt k w A L) (a : Nat) : IntsAt k w A (L.take a) := by
  intro hp
  rw [List.length_take] at hp
  obtain ⟨b, o, e, hlt, hc⟩ := h (by omega)
  refine ⟨b, o, e, hlt, fun i hi => ?_⟩
  rw [List.length_take] at hi
  rw [hc i (by omega)]
  have e2 : (L.take a).getD i 0 = L.getD i 0 := by
    rw [List.getD_eq_getElem?_getD, List.getElem?_take, if_pos (by omega), List.getD_eq_getElem?_getD]
  rw [e2]
theorem own_of_irow {w : World} {g cap base : Nat} {L : List Int} (h : IRow .u8 5 w g cap L) (hb : base ≤ g) (hm : cap ≤ 9223372036854775807) : OwnG (IsIntK .u8) w base 5 1 (.slice (some ⟨g, 0, none⟩) L.length cap) L.length (L.map (Value.int .u8)) := by
  obtain ⟨cs, hh, hs, hl, ht, hu⟩ := h
  refine ⟨⟨by simp, .inr ⟨g, cap, cs, rfl, hb, hh, hl, by unfold maxLen; omega, by omega, by rw [Nat.mul_one]; exact ht⟩⟩, fun g' c' cur' hv hg => ?_⟩
  cases hv
  have : some (Obj.cells cs 5 (0, 0)) = some (.cells cur' 5 (0, 0)) := hh.symm.trans hg
  cases this
  exact hu
theorem small_u8 {L : List Int} (h : L.all (fun x => decide (0 ≤ x) && decide (x ≤ 255)) = true) : ∀ x ∈ L, U8 x := by
  intro x hx
  have := List.all_eq_true.1 h x hx
  simp at this
  exact this
theorem own_row {w : World} {base l c : Nat} {A : Option Addr} {Q : List Int} (hl : Q.length = l) (h0 : 0 < l) (h : OwnG (IsIntK .u8) w base 5 1 (.slice A l c) l (Q.map (Value.int .u8))) :
    ∃ g, A = some ⟨g, 0, none⟩ ∧ base ≤ g ∧ l ≤ c ∧ c ≤ 9223372036854775807 ∧ IRow .u8 5 w g c Q := by
  subst hl
  rcases irow_of_own h with ⟨_, e⟩ | ⟨g, c', e, h1, h2, h3⟩
  · rw [e] at h0; simp at h0
  · cases e; exact ⟨g, rfl, h1, h3.le, by unfold maxLen at h2; omega, h3⟩

set_option maxRecDepth 100000 in
set_option maxHeartbeats 4000000 in
theorem walk (w : World) : Calls Try.prog 9 #[] w fun e w' => e = .returned (.bool true) ∧ Below w.heap.size w w' := by
  obtain ⟨i0, hi0, hz0, hz1, hz2⟩ := info_parts Bytes.infoE
  have hmk5 := fun W => run_make_cap 22 5 i0 _ Try.underlying22 hi0 hz0 hz1 hz2 rfl 1025 1025 (by omega) (by omega) W
  have hmk4 := fun W => run_make_cap 22 5 i0 _ Try.underlying22 hi0 hz0 hz1 hz2 rfl 1024 1024 (by omega) (by omega) W
  rw [show ((1025 : Nat) : Int) = 1025 from rfl] at hmk5
  rw [show ((1024 : Nat) : Int) = 1024 from rfl] at hmk4
  have HI0 := Lib.hid hi0
  have HZ0 := Lib.hid hz0
  have HZ1 := Lib.hid hz1
  have HZ2 := Lib.hid hz2
  have HZI := Lib.hid (zero_intK .u8)
  have HM5 := Lib.hid hmk5
  have HM4 := Lib.hid hmk4
  have HCA := Lib.hid (fun W : World => Lib.run_convert_bytes_const (P := Try.prog) W 22 5 #[.int .u8 97] 1 1 Try.underlying22 Try.underlying5)
  have HCB := Lib.hid (fun W : World => Lib.run_convert_bytes_const (P := Try.prog) W 22 5 #[.int .u8 98, .int .u8 99] 2 2 Try.underlying22 Try.underlying5)
  clear hi0 hz0 hz1 hz2 hmk5 hmk4
  go_enter Try.func9, Try.ntmps9
  go_wp2_with fail
  refine (put_to none 0 0 6 [] _ rfl rfl (IntsAt.nil_ _ _ _) (fun _ => rfl) (fun x hx => absurd hx (by simp)) (by omega)).mono ?_
  rintro e w1 ⟨A1, k1, rfl, hpl, ho1, hb1⟩
  obtain ⟨g1, rfl, hg1, hk1, _, hr1⟩ := own_row hpl (by omega) ho1
  have HR1 := Lib.hid hr1
  have B1 := Lib.hid hb1
  clear hpl ho1 hb1 hr1
  have hmk := HM5.out w1
  go_wp2_with fail
  clear hmk
  obtain ⟨wa, hwa⟩ : ∃ wa : World, wa = w1.alloc (.cells (madeCells #[.int .u8 0] 1025) 5) := ⟨_, rfl⟩
  rw [← hwa]
  have hba : Below w1.heap.size w1 wa := by rw [hwa]; exact (Below.refl _ _).alloc (Nat.le_refl _) _
  have BA := Lib.hid hba
  clear hwa hba
  refine (put_long _ 1025 1025 _ (by omega) (by omega)).mono ?_
  rintro e w2 ⟨A2, k2, rfl, _, _, hb2⟩
  have N2 := Lib.hid (BA.out.trans (hb2.mono BA.out.size))
  have B2 := Lib.hid (B1.out.trans (N2.out.mono B1.out.size))
  have HR2 := Lib.hid (HR1.out.below N2.out HR1.out.lt)
  clear hb2 BA N2 HR1
  have hmk := HM4.out w2
  go_wp2_with fail
  clear hmk
  obtain ⟨wa, hwa⟩ : ∃ wa : World, wa = w2.alloc (.cells (madeCells #[.int .u8 0] 1024) 5) := ⟨_, rfl⟩
  obtain ⟨ga, hga⟩ : ∃ ga, ga = w2.heap.size := ⟨_, rfl⟩
  have hra := IRow.zeros .u8 5 w2 1024
  rw [← hwa, ← hga] at hra ⊢
  have hba : Below w2.heap.size w2 wa := by rw [hwa]; exact (Below.refl _ _).alloc (Nat.le_refl _) _
  have BA := Lib.hid hba
  have HA := Lib.hid hra.at_
  clear hwa hba hga hra
  refine (put_to (some ⟨ga, 0, none⟩) 1024 1024 1030 zeros _ rfl zeros_len HA.out (fun e => by cases e) zeros_u8 (by omega)).mono ?_
  rintro e w3 ⟨A3, k3, rfl, hpl3, ho3, hb3⟩
  obtain ⟨g3, rfl, hg3, hk3, _, hr3⟩ := own_row hpl3 (by omega) ho3
  have hc3 := hr3.cell (i := 0) (by rw [hpl3]; omega)
  rw [zeros_head] at hc3
  have hg3l := hr3.lt
  have HC3 := Lib.hid hc3
  have N3 := Lib.hid (BA.out.trans (hb3.mono BA.out.size))
  have B3 := Lib.hid (B2.out.trans (N3.out.mono B2.out.size))
  have HR3 := Lib.hid (HR2.out.below N3.out HR2.out.lt)
  clear hpl3 ho3 hr3 hc3 hb3 BA N3 HR2 HA
  go_wp2_with fail
  refine (get_to _ 5 5 [0, 0, 0, 0, 0] [] 0 0 1 _ (by kernel_rfl) rfl rfl ((irow_blk (Blk.new _ _ _) rfl rfl).at_) (small_u8 rfl) (by decide) (by decide)).mono ?_
  rintro e w4 ⟨A4, k4, rfl, _, _, hb4⟩
  have N4 := Lib.hid (((Below.refl w3.heap.size w3).alloc (Nat.le_refl _) (.cells #[.int .u8 0, .int .u8 0, .int .u8 0, .int .u8 0, .int .u8 0] 5)).trans (hb4.mono (by simp)))
  clear hb4
  go_wp2_with fail
  refine (get_to _ 6 6 [4, 1, 0, 0, 0, 0] [] 0 0 2 _ (by kernel_rfl) rfl rfl ((irow_blk (Blk.new _ _ _) rfl rfl).at_) (small_u8 rfl) (by decide) (by decide)).mono ?_
  rintro e w5 ⟨A5, k5, rfl, _, _, hb5⟩
  have N5 := Lib.hid (N4.out.trans ((((Below.refl w4.heap.size w4).alloc (Nat.le_refl _) (.cells #[.int .u8 4, .int .u8 1, .int .u8 0, .int .u8 0, .int .u8 0, .int .u8 0] 5)).trans (hb5.mono (by simp))).mono N4.out.size))
  clear hb5 N4
  go_wp2_with fail
  refine (get_to _ 6 6 [0, 1, 0, 0, 0, 0] [] 0 0 1 _ (by kernel_rfl) rfl rfl ((irow_blk (Blk.new _ _ _) rfl rfl).at_) (small_u8 rfl) (by decide) (by decide)).mono ?_
  rintro e w6 ⟨A6, k6, rfl, _, _, hb6⟩
  have N6 := Lib.hid (N5.out.trans ((((Below.refl w5.heap.size w5).alloc (Nat.le_refl _) (.cells #[.int .u8 0, .int .u8 1, .int .u8 0, .int .u8 0, .int .u8 0, .int .u8 0] 5)).trans (hb6.mono (by simp))).mono N5.out.size))
  have B6 := Lib.hid (B3.out.trans (N6.out.mono B3.out.size))
  clear hb6 N5
  have c3 := (N6.out.cell (p := ⟨g3, 0, none⟩) hg3l).trans HC3.out
  have HR6 := Lib.hid (HR3.out.below N6.out HR3.out.lt)
  have c0 := HR6.out.cell (i := 0) (by decide)
  have c1 := HR6.out.cell (i := 1) (by decide)
  have e0 : (putL []).getD 0 0 = 0 := rfl
  have e1 : (putL []).getD 1 0 = 0 := rfl
  rw [e0] at c0
  rw [e1] at c1
  clear e0 e1 N6 B3 HR3 HC3
  have hcv := HCA.out w6
  go_wp2_with fail
  refine (put_to _ 1 1 7 pa _ rfl rfl (ints_mark (k := .u8) (E := 5) (fr := (1, 2)) (L := pa) w6 #[.int .u8 97] rfl) (fun e => by cases e) pa_u8 (by decide)).mono ?_
  clear c0 c1 c3 hcv
  rintro e w7 ⟨A7, k7, rfl, hpl7, ho7, hb7⟩
  have B7 := Lib.hid (B6.out.trans ((((Below.refl w6.heap.size w6).alloc (Nat.le_refl _) (.cells #[.int .u8 97] 5 (1, 2))).trans (hb7.mono (by simp))).mono B6.out.size))
  obtain ⟨g7, rfl, hg7, hk7, hk7', hr7⟩ := own_row hpl7 (by omega) ho7
  have HR7 := Lib.hid hr7
  have HP7 := Lib.hid hpl7
  clear hpl7 ho7 hr7 hb7 B6 HR6
  have hcv := HCB.out w7
  go_wp2_with fail
  refine (put_to _ 2 2 8 pb _ rfl rfl (ints_mark (k := .u8) (E := 5) (fr := (2, 3)) (L := pb) w7 #[.int .u8 98, .int .u8 99] rfl) (fun e => by cases e) pb_u8 (by decide)).mono ?_
  clear hcv
  rintro e w8 ⟨A8, k8, rfl, hpl8, ho8, hb8⟩
  have N8 := Lib.hid (((Below.refl w7.heap.size w7).alloc (Nat.le_refl _) (.cells #[.int .u8 98, .int .u8 99] 5 (2, 3))).trans (hb8.mono (by simp)))
  have B8 := Lib.hid (B7.out.trans (N8.out.mono B7.out.size))
  obtain ⟨g8, rfl, hg8, hk8, hk8', hr8⟩ := own_row hpl8 (by omega) ho8
  have HR8 := Lib.hid hr8
  have HP8 := Lib.hid hpl8
  have HX8 := Lib.hid (HR7.out.below N8.out HR7.out.lt)
  have h4 : (4 : Int) ≤ (k8 : Int) := by omega
  have hl8 := hr8.lt
  have hr8' := hr8.at_
  have hl7 := HX8.out.lt
  clear hpl8 ho8 hr8 hb8 N8 B7 HR7
  go_upto_region 11 with fail
  go_cut [20, 21] (fun s20 s21 wx => ∃ A k, s20 = .slice A 2 k ∧ s21 = .int .i64 15 ∧ RowsAt wx A [pa, pb] ∧ Below w8.heap.size w8 wx)
  case first =>
    have HC8 := Lib.hid hr8'
    have m1 : (7 : Nat) + 8 ≤ maxLen := by unfold maxLen; omega
    have m2 : (7 + 8) * 1 ≤ 140737488355328 := by omega
    have m3 : (7 + 8) + 4 ≤ maxLen := by unfold maxLen; omega
    have m4 : ((7 + 8) + 4) * 1 ≤ 140737488355328 := by omega
    have L8 := Lib.hid (show ((putL pb).map (Value.int .u8)).length = 8 * 1 from rfl)
    have L4 := Lib.hid (show (((putL pb).take 4).map (Value.int .u8)).length = 4 * 1 from rfl)
    have LS := Lib.hid (show (putL pa ++ putL pb ++ (putL pb).take 4).length = 7 + 8 + 4 from rfl)
    have US := Lib.hid (show ∀ x ∈ putL pa ++ putL pb ++ (putL pb).take 4, U8 x from fun x hx => by
      rcases List.mem_append.1 hx with hx | hx
      · rcases List.mem_append.1 hx with hx | hx
        · exact putL_u8 pa_u8 (by decide) x hx
        · exact putL_u8 pb_u8 (by decide) x hx
      · exact putL_u8 pb_u8 (by decide) x (List.mem_of_mem_take hx))
    have SF1 := Lib.hid (show (scanF (putL pa ++ putL pb ++ (putL pb).take 4)).1 = [pa, pb] by rw [scan_abc])
    have SF2 := Lib.hid (show (scanF (putL pa ++ putL pb ++ (putL pb).take 4)).2 = 15 by rw [scan_abc])
    clear hr8'
    go_region_held3 (fun w' => Below w8.heap.size w8 w')
      (first
        | exact (Below.refl _ _).drew
        | exact HBA.out
        | exact HBB.out
        | exact HBC.out
        | exact HBD.out)
      (first
        | (go_at_call 13; (with_reducible refine (copy_to (some ⟨g7, 0, none⟩) 7 k7 (putL pa) _ HP7.out (HX8.out.at_.below ((Below.refl _ _).drew) (Nat.le_refl _)) (by omega)).mono ?_); rintro e wa ⟨Ac, ka, rfl, hoa, hba⟩; have HBA := Lib.hid (show Below w8.heap.size w8 wa from ((Below.refl w8.heap.size w8).drew).trans hba); have HOA := Lib.hid (show OwnG (IsIntK .u8) wa w8.heap.size 5 1 (.slice Ac 7 ka) 7 ((putL pa).map (Value.int .u8)) from hoa); have zA := HBA.out.size; clear hoa hba)
        | (refine step_append_G rfl (.tmp 121) (.tmp 122) 22 rfl (IsIntK .u8) w8.heap.size 5 i0 _ 1 1 Try.underlying22 HI0.out HZ0.out HZ1.out HZ2.out rfl (by omega) _ 7 _ rfl HOA.out ⟨g8, 0, none⟩ 8 k8 ((putL pb).map (Value.int .u8)) rfl L8.out (ints_news (HC8.out.below HBA.out (Nat.le_refl _)) _ rfl) (ints_oneCell .u8 _) m1 m2 zA HZI.out (ints_all .u8 _) (ints_all .u8 _) ?_; intro vb wb hob hgb; obtain ⟨Ab, kb, rfl⟩ := hob.slice; rw [← List.map_append] at hob; have HBB := Lib.hid (HBA.out.grown hgb zA (fun q hq => (HOA.out.1.lt q hq).1)); have HOB := Lib.hid hob; have zB := HBB.out.size; clear hob hgb)
        | (refine step_append_G rfl (.tmp 123) (.tmp 125) 22 rfl (IsIntK .u8) w8.heap.size 5 i0 _ 1 1 Try.underlying22 HI0.out HZ0.out HZ1.out HZ2.out rfl (by omega) _ (7 + 8) _ rfl HOB.out ⟨g8, 0, none⟩ 4 k8 (((putL pb).take 4).map (Value.int .u8)) rfl L4.out (ints_news (ChunkKnown.ints_take (HC8.out.below HBB.out (Nat.le_refl _)) 4) _ rfl) (ints_oneCell .u8 _) m3 m4 zB HZI.out (ints_all .u8 _) (ints_all .u8 _) ?_; intro vc wc hoc hgc; obtain ⟨Ae, ke, rfl⟩ := hoc.slice; rw [← List.map_append] at hoc; have HBC := Lib.hid (HBB.out.grown hgc zB (fun q hq => (HOB.out.1.lt q hq).1)); have HOC := Lib.hid hoc; have zC := HBC.out.size; have HCC := Lib.hid (own_cap hoc); clear hoc hgc)
        | (go_at_call 18; (with_reducible refine (scan_to Ae (7 + 8 + 4) ke (putL pa ++ putL pb ++ (putL pb).take 4) [pa, pb] 15 _ SF1.out SF2.out LS.out (own_ints HOC.out) US.out (by omega) HCC.out.1 HCC.out.2).mono ?_); rintro e wd ⟨Ad, kd, rfl, hod, hbd⟩; have HRD := Lib.hid hod.at_; have HBD := Lib.hid (HBC.out.trans (hbd.mono zC)); clear hod hbd))
    go_wp2_with fail
    go_meet
    exact ⟨Ad, kd, rfl, rfl, HRD.out, HBD.out⟩
  case rest =>
  clear hr8'
  obtain ⟨A9, k9, rfl, rfl, hrw, hb9⟩ := hcut
  obtain ⟨w9, rfl⟩ : ∃ wq : World, wq = wc := ⟨_, rfl⟩
  have HRW := Lib.hid hrw
  have B9 := Lib.hid (B8.out.trans (hb9.mono B8.out.size))
  have HY9' := hl8
  have hz9 := hb9.size
  have HX9 := Lib.hid (HX8.out.below hb9 HX8.out.lt)
  have HY9 := Lib.hid (HR8.out.below hb9 HR8.out.lt)
  clear hrw hb9 HX8 HR8 B8
  go_wp2_with fail
  refine (copy_to (some ⟨g7, 0, none⟩) 7 k7 (putL pa) _ HP7.out HX9.out.at_ (by omega)).mono ?_
  rintro e w10 ⟨A10, k10, rfl, ho10, hb10⟩
  obtain ⟨g10, rfl, hg10, hk10, hk10', hr10⟩ := own_row HP7.out (by omega) ho10
  have B10 := Lib.hid (B9.out.trans (hb10.mono B9.out.size))
  have HB910 := Lib.hid hb10
  have HW10' := Lib.hid HRW.out
  have HY10 := Lib.hid (HY9.out.below hb10 HY9.out.lt)
  have HR10 := Lib.hid hr10
  have hf10 := hr10.frozen 6
  have hl10 := hr10.lt
  have hc10 := hr10.cell (i := 6) (by decide)
  have he10 : (putL pa).getD 6 0 = 97 := rfl
  rw [he10] at hc10
  clear ho10 hb10 hr10 he10 HX9 HY9 HRW
  go_upto_region 14 with fail
  obtain ⟨w11, hw11⟩ : ∃ w11 : World, w11 = w10.setCell ⟨g10, 6, none⟩ (.int .u8 98) := ⟨_, rfl⟩
  have hr11 := HR10.out.put 6 98
  have hn11 : w10.grownBy w11 (some g10) := by rw [hw11]; exact only_set (only_refl _ _) _ _
  rw [← hw11] at hr11 ⊢
  have hz11 : w9.heap.size ≤ w11.heap.size := by have := hn11.size; omega
  have HO11 := Lib.hid (show OwnG (IsIntK .u8) w11 w9.heap.size 5 1 (.slice (some ⟨g10, 0, none⟩) 7 k10) 7 (((putL pa).set 6 98).map (Value.int .u8)) from own_of_irow hr11 hg10 hk10')
  have B11 := Lib.hid (show Below w.heap.size w w11 by rw [hw11]; exact B10.out.setCell (by show w.heap.size ≤ g10; have := B9.out.size; omega) _)
  have hg8l := HY10.out.lt
  have HY11 := Lib.hid ((HY10.out.grown hn11 (by intro e; cases e; have := HY9'; omega)).at_)
  have N11 := Lib.hid (show Below w9.heap.size w9 w11 by rw [hw11]; exact HB910.out.setCell hg10 _)
  clear hw11 hr11 hn11 hf10 hc10
  have m1 : (7 : Nat) + 8 ≤ maxLen := by unfold maxLen; omega
  have m2 : (7 + 8) * 1 ≤ 140737488355328 := by omega
  have L8 := Lib.hid (show ((putL pb).map (Value.int .u8)).length = 8 * 1 from rfl)
  go_wp2_with (at_builtin; refine wpList_append_G _ rfl (.tmp 135) (.tmp 136) 22 rfl (IsIntK .u8) w9.heap.size 5 i0 _ 1 1 Try.underlying22 HI0.out HZ0.out HZ1.out HZ2.out rfl (by omega) _ 7 _ rfl HO11.out ⟨g8, 0, none⟩ 8 k8 ((putL pb).map (Value.int .u8)) rfl L8.out (ints_news HY11.out _ rfl) (ints_oneCell .u8 _) m1 m2 hz11 HZI.out (ints_all .u8 _) (ints_all .u8 _) ?_; intro v12 w12 hown12 hgrow12; obtain ⟨A12, k12, rfl⟩ := hown12.slice)
  rw [← List.map_append] at hown12
  have HCC := Lib.hid (own_cap hown12)
  have HI12 := Lib.hid (own_ints hown12)
  have hb12 : Below w9.heap.size w11 w12 := below_grown hgrow12 (fun b e => (HO11.out.1.lt b e).1) hz11
  have B12 := Lib.hid (B11.out.trans (hb12.mono (by have := B9.out.size; omega)))
  have N12 := Lib.hid (N11.out.trans hb12)
  have HW12 := Lib.hid (HW10'.out.below N12.out (Nat.le_refl _))
  clear hown12 hgrow12 hb12
  refine (scan_to A12 (7 + 8) k12 ((putL pa).set 6 98 ++ putL pb) [] 0 _ (by rw [scan_bad]) (by rw [scan_bad]) rfl HI12.out (small_u8 (by kernel_rfl)) (by omega) HCC.out.1 HCC.out.2).mono ?_
  rintro e w13 ⟨A13, k13, rfl, _, hb13⟩
  have B13 := Lib.hid (B12.out.trans (hb13.mono B12.out.size))
  have HW13 := Lib.hid (HW12.out.below hb13 (Nat.le_refl _))
  clear hb13
  obtain ⟨wm, hwm⟩ : ∃ wm : World, wm = w13.alloc (.cells #[.int .u8 97] 5 (1, 2)) := ⟨_, rfl⟩
  have hcv2 := HCB.out wm
  have IA := Lib.hid (show IntsAt .u8 wm (some ⟨w13.heap.size, 0, none⟩) pa by rw [hwm]; exact ints_mark (k := .u8) (E := 5) (fr := (1, 2)) (L := pa) w13 #[.int .u8 97] rfl)
  have hcv : (convert 22 22 (.slice (some ⟨w13.heap.size, 0, none⟩) 1 1)).run Try.prog (w13.alloc (.cells #[.int .u8 97] 5)) = .ok (.slice (some ⟨w13.heap.size, 0, none⟩) 1 1) wm := by rw [hwm]; exact HCA.out w13
  have hbm : Below w13.heap.size w13 wm := by rw [hwm]; exact (Below.refl _ _).alloc (Nat.le_refl _) _
  have HBM := Lib.hid (hbm.trans (((Below.refl wm.heap.size wm).alloc (Nat.le_refl _) (.cells #[.int .u8 98, .int .u8 99] 5 (2, 3))).mono hbm.size))
  have IB := Lib.hid (ints_mark (k := .u8) (E := 5) (fr := (2, 3)) (L := pb) wm #[.int .u8 98, .int .u8 99] rfl)
  have hal : w13.heap.size < (wm.alloc (.cells #[.int .u8 98, .int .u8 99] 5 (2, 3))).heap.size := by
    have := hbm.size; simp; omega
  have IA2 := Lib.hid (IA.out.alloc (.cells #[.int .u8 98, .int .u8 99] 5 (2, 3)))
  obtain ⟨wn, hwn⟩ : ∃ wn : World, wn = wm.alloc (.cells #[.int .u8 98, .int .u8 99] 5 (2, 3)) := ⟨_, rfl⟩
  have hcv3 : (convert 22 22 (.slice (some ⟨wm.heap.size, 0, none⟩) 2 2)).run Try.prog (wm.alloc (.cells #[.int .u8 98, .int .u8 99] 5)) = .ok (.slice (some ⟨wm.heap.size, 0, none⟩) 2 2) wn := by rw [hwn]; exact HCB.out wm
  rw [← hwn] at HBM IB hal IA2
  have HRN := Lib.hid (show RowsAt (wn.alloc (.cells #[.slice (some ⟨w13.heap.size, 0, none⟩) 1 1, .slice (some ⟨wm.heap.size, 0, none⟩) 2 2] 22)) (some ⟨wn.heap.size, 0, none⟩) [pa, pb] from fun _ => by
    refine ⟨wn.heap.size, 0, rfl, by simp, fun i hi => ?_⟩
    match i, hi with
    | 0, _ => exact ⟨_, 1, (Blk.new wn 22 _).cell 0, IA2.out.alloc _, by decide, fun e => by cases e⟩
    | 1, _ => exact ⟨_, 2, (Blk.new wn 22 _).cell 1, IB.out.alloc _, by decide, fun e => by cases e⟩)
  have HBN := Lib.hid (HBM.out.alloc (show w13.heap.size ≤ wn.heap.size from HBM.out.size) (.cells #[.slice (some ⟨w13.heap.size, 0, none⟩) 1 1, .slice (some ⟨wm.heap.size, 0, none⟩) 2 2] 22))
  have HWN := Lib.hid (HW13.out.below HBN.out (Nat.le_refl _))
  have BN := Lib.hid (B13.out.trans (HBN.out.mono B13.out.size))
  clear hwm hwn hcv2 hbm hal
  go_wp2_with fail
  refine (rows_yes A9 (some ⟨wn.heap.size, 0, none⟩) k9 2 2 [pa, pb] _ rfl HWN.out HRN.out (by omega) (fun i hi => by
    match i, hi with
    | 0, _ => decide
    | 1, _ => decide)).mono ?_
  rintro e w14 ⟨rfl, hb14⟩
  have B14 := Lib.hid (BN.out.trans (hb14.mono BN.out.size))
  clear hb14 hcv hcv3
  go_wp2_with fail
  refine (known_any _).mono ?_
  rintro e w15 ⟨rfl, hb15⟩
  have B15 := Lib.hid (B14.out.trans (hb15.mono B14.out.size))
  clear hb15
  go_wp2_with fail
  go_ret
  exact ⟨rfl, B15.out⟩

theorem own : ownKnob Try.prog.godebug = none := by kernel_rfl

set_option maxRecDepth 100000 in
theorem lifted (os : Os) (started : os.Started) (H : Type) (enc : TypeId × Value → H) :
    ReturnsInHanded {} Try.checked os 9 .any (Rows.chunkKnownSpec.pre6 enc Try.prog Try.f9 Rows.chunkKnownRow.domain false) (Rows.chunkKnownSpec.post enc Try.prog Try.f9 false true false false) := by
  refine law_lifted (C := Try.checked) (tb := 4) own started (by kernel_rfl) Try.func9
    (ChangeSpec.witness6 (enc := enc) (C := Try.checked) false ⟨#[], #[], []⟩ 8 (by kernel_rfl) (by kernel_rfl) (by kernel_rfl) (by kernel_rfl))
    rfl (by kernel_rfl) (by kernel_rfl) (by kernel_rfl) Try.underlying4 (fun ds h => ?_) ?_
  · rw [show Try.f9.params = #[] from Try.params9] at h
    match ds, h with
    | [], _ => rfl
  · intro W base args ds before _ hA _ _
    obtain ⟨rfl, rfl, rfl⟩ := trodAll_none (show DataW.TrodAll enc Try.prog W 0 (fun _ => true) true [] args.toList ds before from hA)
    exact walk W

theorem proved : Rows.ChunkKnownSaid :=
  OpenClaim.holds_of_wide 9 Try.f9 rfl rfl rfl rfl rfl rfl rfl ⟨rfl, rfl, rfl, rfl, rfl⟩ rfl rfl rfl rfl rfl (by kernel_rfl) Try.func9 (by kernel_rfl)
    (of_decide_eq_true (by kernel_rfl)) (by unfold Func.isWrapper; rw [if_neg (of_decide_eq_false (by kernel_rfl))]; exact ⟨rfl, rfl⟩)
    (fun os started H enc _ => lifted os started H enc)
#print axioms proved
end ChunkKnown
end Go.Proofs.Ytjpbmapnagkonaa
