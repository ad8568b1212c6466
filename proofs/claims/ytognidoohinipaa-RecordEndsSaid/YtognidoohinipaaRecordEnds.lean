/-
  What is proved here: the law RecordEnds returns true for all it is given. Conditions: none.
-/
import Derived.Test.YtognidoohinipaaRecKnown
import Derived.Test.YtognidoohinipaaPick
namespace Go.Proofs.Ytognidoohinipaa
namespace RecordEnds
open Go.ChangeShapes Go.WideShapes Go.ChangeAt Go.RowKit Go.Deep Go.Joins
attribute [local go_sem high] eq_rec

theorem ints_take {k : IntKind} {w : World} {A : Option Addr} {L : List Int} (h : IntsAt k w A L) (a : Nat) : IntsAt k w A (L.take a) := by
  intro hp
  rw [List.length_take] at hp
  obtain ⟨b, o, e, hlt, hc⟩ := h (by omega)
  refine ⟨b, o, e, hlt, fun i hi => ?_⟩
  rw [List.length_take] at hi
  rw [hc i (by omega)]
  have e2 : (L.take a).getD i 0 = L.getD i 0 := by
    rw [List.getD_eq_getElem?_getD, List.getElem?_take, if_pos (by omega), List.getD_eq_getElem?_getD]
  rw [e2]
theorem ints_news {k : IntKind} {w : World} {A : Option Addr} {L : List Int} (h : IntsAt k w A L) : ∀ ad, A = some ad → ∀ j u, (L.map (Value.int k))[j]? = some u → w.cell? (ad.add j) = some u := by
  intro ad e j u hu
  have hj : j < L.length := by
    have := (List.getElem?_eq_some_iff.1 hu).1
    simpa using this
  obtain ⟨b, off, e', _, hc⟩ := h (by omega)
  rw [e] at e'
  cases e'
  rw [ints_get k L j hj] at hu
  cases hu
  rw [Addr.add_lit]
  exact hc j hj
/-- append onto a row of the call's own, whatever the source: nil, empty or not. -/
theorem wpList_append_G_any {P : Program} (w : World) {ops : Array Oper} {rest : List Oper} {o : Oper} {a : Act} {Q : Exit → Act → World → Prop} (hgd : o.guard = none) (s x : Operand) (t : TypeId)
    (ho : o.op = .call { callee := .builtin .append, args := #[s, x], argTypes := #[t, t] })
    (Good : Value → Prop) (base : Nat) (e : TypeId) (i : TypeInfo) (z : Value) (size bytes : Nat) (ht : P.underlying t = some (.slice e)) (hi : P.info? e = some i) (hz : i.zero = some z)
    (hsize : i.size = size) (hby : i.bytes = bytes) (hzs : z.cells.size = size) (hsz : 0 < size)
    (v : Value) (n : Nat) (xs : List Value) (hs : a.eval s = v) (hown : OwnG Good w base e size v n xs)
    (ao : Option Addr) (m c : Nat) (news : List Value) (hx : a.eval x = .slice ao m c) (hl : news.length = m * size) (hnone : ao = none → m = 0 ∧ c = 0) (hnews : ∀ ad, ao = some ad → ∀ j u, news[j]? = some u → w.cell? (ad.add j) = some u) (h1 : ∀ u ∈ news, u.oneCell' = true)
    (h63 : n + m ≤ maxLen) (hbytes : (n + m) * bytes ≤ 140737488355328) (hbase : base ≤ w.heap.size)
    (gz : ∀ u ∈ z.cells.toList, Good u) (gn : ∀ u ∈ news, Good u) (gx : ∀ u ∈ xs, Good u)
    (h : ∀ v' w', OwnG Good w' base e size v' (n + m) (xs ++ news) → w.grownBy w' v.ownBlock → wpList P ops Q rest (a.put o.dst v') w') : wpList P ops Q (o :: rest) a w := by
  cases ao with
  | some ad => exact wpList_append_G w hgd s x t ho Good base e i z size bytes ht hi hz hsize hby hzs hsz v n xs hs hown ad m c news hx hl (hnews ad rfl) h1 h63 hbytes hbase gz gn gx h
  | none =>
    obtain ⟨rfl, rfl⟩ := hnone rfl
    have hnn : news = [] := List.eq_nil_of_length_eq_zero (by simpa using hl)
    subst hnn
    refine wpList_plain hgd fun K hK' => ?_
    have hrun := run_append_owned_none (P := P) w base t o.type e i size ht hi v n xs hown.1
    unfold Oper.wp
    simp [execOp, ho, resolve, invoke, builtin, hs, hx, hrun, Result.andThen]
    exact hK' _ _ (by simpa using h v w (by simpa using hown) (only_refl _ _))
theorem copy_to (A : Option Addr) (n cap : Nat) (L : List Int) (w : World) (hn : L.length = n) (hA : IntsAt .u8 w A L) (hlen : n ≤ 140737488351232) :
    Calls Try.prog 20 #[.slice A n cap] w fun e w' => ∃ B c, e = .returned (.slice B n c) ∧ OwnG (IsIntK .u8) w' w.heap.size 5 1 (.slice B n c) n (L.map (Value.int .u8)) ∧ Below w.heap.size w w' := by
  subst hn
  refine (Bytes.copy_any A cap L w hA (by omega)).mono ?_
  rintro e w' ⟨v, rfl, ho, hb⟩
  obtain ⟨B, c, rfl⟩ := ho.slice
  exact ⟨B, c, rfl, ho, hb⟩

set_option maxRecDepth 100000 in
set_option maxHeartbeats 2000000 in
theorem walk (k t : Int) (g : ByteArray) (v i : Int) (A : Option Addr) (m cap : Nat) (M : List Int) (cut : Int) (w : World) (hg : g.size ≤ 9223372036854775807) (hi : Ranged ⟨k, t, g, v, i⟩)
    (hlm : M.length = m) (hA : IntsAt .u8 w A M) (hM : ∀ x ∈ M, U8 x) (hcA : A = none → cap = 0) (hm : m ≤ 140737488351232) (c1 : -9223372036854775808 ≤ cut) (c2 : cut ≤ 9223372036854775807) :
    Calls Try.prog 7 #[.agg #[.int .i64 k, .int .i64 t, .string g, .int .i64 v, .int .i64 i], .slice A m cap, .int .i64 cut] w fun e w' => e = .returned (.bool true) ∧ Below w.heap.size w w' := by
  obtain ⟨x, hx⟩ : ∃ x, x = recErr ⟨k, t, g, v, i⟩ := ⟨_, rfl⟩
  have HX := Lib.hid hx.symm
  have HI := Lib.hid hi
  have HN := Lib.hid hlm
  have HA := Lib.hid hA
  have HM := Lib.hid hM
  have HCA := Lib.hid hcA
  obtain ⟨w0, hw0⟩ : ∃ w0 : World, w0 = w.alloc (.cells #[.int .i64 k, .int .i64 t, .string g, .int .i64 v, .int .i64 i] 23) := ⟨_, rfl⟩
  have hbx : Blk w0 w.heap.size 23 #[.int .i64 k, .int .i64 t, .string g, .int .i64 v, .int .i64 i] := by rw [hw0]; exact Blk.new _ _ _
  have hb0 : Below w.heap.size w w0 := by rw [hw0]; exact (Below.refl _ _).alloc (Nat.le_refl _) _
  have HBX := Lib.hid hbx
  have B0 := Lib.hid hb0
  clear hx hi hbx hb0 hlm hA hM hcA
  by_cases hx0 : x = 0
  · subst hx0
    obtain ⟨l1, l2⟩ := rec_len HX.out
    have HU := Lib.hid (rec_u8 HX.out)
    have HG := Lib.hid (rec_app HX.out HI.out)
    have HCT := Lib.hid (fun c => rec_cut HX.out (c := c))
    have HP := Lib.hid (show putR ⟨k, t, g, v, i⟩ = (recL ⟨k, t, g, v, i⟩, 0) by unfold putR; rw [if_pos HX.out])
    obtain ⟨Q, hQ⟩ : ∃ Q, Q = recL ⟨k, t, g, v, i⟩ := ⟨_, rfl⟩
    rw [← hQ] at l1 l2 HU HG HP HCT
    obtain ⟨n, hn⟩ : ∃ m, m = Q.length := ⟨_, rfl⟩
    have HQ := Lib.hid hn.symm
    rw [← hn] at l1 l2 HCT
    clear hQ hn
    by_cases hbig : 65536 < m
    · have t1 : (65536 : Int) < (m : Int) := by omega
      go_enter Try.func7, Try.ntmps7
      go_wp2_with fail
      rw [← hw0]
      clear hw0
      refine (put_is k t g v i Q 0 _ hg HP.out).mono ?_
      rintro e w2 ⟨A2, k2, rfl, _, hb2⟩
      have B2 := Lib.hid (B0.out.trans (hb2.mono B0.out.size))
      clear hb2
      go_wp2_with fail
      refine (known_any _).mono ?_
      rintro e w5 ⟨rfl, hb5⟩
      have B5 := Lib.hid (B2.out.trans (hb5.mono B2.out.size))
      clear hb5
      go_wp2_with fail
      go_ret
      exact ⟨rfl, B5.out⟩
    have t1 : ¬ (65536 : Int) < (m : Int) := by omega
    obtain ⟨i0, hi0, hz0, hz1, hz2⟩ := info_parts Bytes.infoE
    have HI0 := Lib.hid hi0
    have HZ0 := Lib.hid hz0
    have HZ1 := Lib.hid hz1
    have HZ2 := Lib.hid hz2
    have HZI := Lib.hid (zero_intK .u8)
    clear hi0 hz0 hz1 hz2
    go_enter Try.func7, Try.ntmps7
    go_wp2_with fail
    rw [← hw0]
    clear hw0
    refine (put_is k t g v i Q 0 _ hg HP.out).mono ?_
    rintro e w1 ⟨A1, k1, rfl, ho1, hb1⟩
    have HI1 := Lib.hid (own_ints ho1)
    have HC1 := Lib.hid (own_cap ho1)
    have HBX1 := Lib.hid (HBX.out.below hb1 HBX.out.lt)
    have B1 := Lib.hid (B0.out.trans (hb1.mono B0.out.size))
    rw [HQ.out] at HC1 ⊢
    have hk1 := HC1.out.1
    clear ho1 hb1
    go_wp2_with fail
    refine (pick_any cut (n : Int) _ c1 c2 (by omega) (by omega)).mono ?_
    rintro e wq ⟨rfl, rfl⟩
    obtain ⟨a, ha⟩ : ∃ a : Nat, cut % (n : Int) = (a : Int) := ⟨(cut % (n : Int)).toNat, by have := Int.emod_nonneg cut (show (n : Int) ≠ 0 by omega); omega⟩
    have hal : a < n := by have := Int.emod_lt_of_pos cut (show 0 < (n : Int) by omega); omega
    rw [ha]
    clear ha
    have hac : (a : Int) ≤ (k1 : Int) := by omega
    have HTL := Lib.hid (show (Q.take a).length = a by rw [List.length_take, HQ.out]; omega)
    go_wp2_with fail
    refine (get_is A1 a k1 (Q.take a) 0 0 noG 0 0 1 _ (HCT.out a hal) HTL.out (ints_take HI1.out a) (fun x hx => HU.out x (List.mem_of_mem_take hx)) (by omega) (by omega)).mono ?_
    rintro e w2 ⟨rfl, hb2⟩
    have h2 := HBX1.out.below hb2 HBX1.out.lt
    have HI2 := Lib.hid (HI1.out.below hb2 (Nat.le_refl _))
    have B2 := Lib.hid (B1.out.trans (hb2.mono B1.out.size))
    obtain ⟨w3, hw3⟩ : ∃ w3 : World, w3 = w2.alloc (.cells #[.int .i64 0, .int .i64 0, .string noG, .int .i64 0, .int .i64 0] 23) := ⟨_, rfl⟩
    have hb3 : Below w2.heap.size w2 w3 := by rw [hw3]; exact (Below.refl _ _).alloc (Nat.le_refl _) _
    have HBX3 := Lib.hid (h2.below hb3 h2.lt)
    have HI3 := Lib.hid (HI2.out.below hb3 (Nat.le_refl _))
    have B3 := Lib.hid (B2.out.trans (hb3.mono B2.out.size))
    clear hb2 h2 hb3
    go_upto_region 5 with fail
    rw [← hw3]
    clear hw3
    go_wp2_with fail
    refine (copy_to A1 n k1 Q _ HQ.out HI3.out (by omega)).mono ?_
    rintro e w4 ⟨A4, k4, rfl, ho4, hb4⟩
    have HO4 := Lib.hid ho4
    have HBX4 := Lib.hid (HBX3.out.below hb4 HBX3.out.lt)
    have B4 := Lib.hid (B3.out.trans (hb4.mono B3.out.size))
    have hz4 := hb4.size
    have HNN := Lib.hid (show A = none → m = 0 ∧ cap = 0 from fun e => ⟨by
      by_cases h0 : 0 < M.length
      · obtain ⟨b, off, e', _, _⟩ := HA.out h0
        rw [e] at e'; cases e'
      · have := HN.out; omega, HCA.out e⟩)
    have HNW := Lib.hid (ints_news (HA.out.below B4.out (Nat.le_refl _)))
    have j3 : n + m ≤ maxLen := by unfold maxLen; omega
    have j4 : (n + m) * 1 ≤ 140737488355328 := by omega
    have K8 := Lib.hid (show (M.map (Value.int .u8)).length = m * 1 by rw [List.length_map, HN.out]; omega)
    clear ho4 hb4
    go_wp2_with (at_builtin; refine wpList_append_G_any _ rfl (.tmp 38) (.tmp 39) 24 rfl (IsIntK .u8) w3.heap.size 5 i0 _ 1 1 Try.underlying24 HI0.out HZ0.out HZ1.out HZ2.out rfl (by omega) _ n _ rfl HO4.out A m cap (M.map (Value.int .u8)) rfl K8.out HNN.out HNW.out (ints_oneCell .u8 _) j3 j4 hz4 HZI.out (ints_all .u8 _) (ints_all .u8 _) ?_; intro v5 w5 hown5 hgrow5; obtain ⟨A5, k5, rfl⟩ := hown5.slice)
    rw [← List.map_append] at hown5
    have HI5 := Lib.hid (own_ints (own_tr hown5.1))
    have HC5 := Lib.hid (own_cap (own_tr hown5.1))
    have B5 := Lib.hid (B4.out.trans ((below_grown hgrow5 (fun b e => (HO4.out.1.lt b e).1) hz4).mono (by have := B3.out.size; exact this)))
    have HBX5 := Lib.hid (HBX4.out.grown hgrow5 (own_ne_type HO4.out HBX4.out (by decide)))
    have HUU := Lib.hid (show ∀ x ∈ Q ++ M, U8 x from fun x hx => (List.mem_append.1 hx).elim (HU.out x) (HM.out x))
    have HLN := Lib.hid (show (Q ++ M).length = n + m by rw [List.length_append, HQ.out, HN.out])
    clear hown5 hgrow5
    by_cases hm0 : m = 0
    · have HGT := Lib.hid ((HG.out M).2 (List.eq_nil_of_length_eq_zero (by rw [HN.out]; exact hm0)))
      subst hm0
      refine (get_is A5 (n + 0) k5 (Q ++ M) k t g v i 0 _ HGT.out HLN.out HI5.out HUU.out (by omega) HC5.out.1).mono ?_
      rintro e w6 ⟨rfl, hb6⟩
      have h6 := HBX5.out.below hb6 HBX5.out.lt
      have B6 := Lib.hid (B5.out.trans (hb6.mono B5.out.size))
      obtain ⟨w7, hw7⟩ : ∃ w7 : World, w7 = w6.alloc (.cells #[.int .i64 k, .int .i64 t, .string g, .int .i64 v, .int .i64 i] 23) := ⟨_, rfl⟩
      have hbx : Blk w7 w6.heap.size 23 #[.int .i64 k, .int .i64 t, .string g, .int .i64 v, .int .i64 i] := by rw [hw7]; exact Blk.new _ _ _
      have hb7 : Below w6.heap.size w6 w7 := by rw [hw7]; exact (Below.refl _ _).alloc (Nat.le_refl _) _
      have h7 := h6.below hb7 h6.lt
      have B7 := Lib.hid (B6.out.trans (hb7.mono B6.out.size))
      clear hb6 hb7 h6
      go_upto_region 6 with fail
      rw [← hw7]
      clear hw7
      have p0 := hbx.cell 0
      have p1 := hbx.cell 1
      have p2 := hbx.cell 2
      have p3 := hbx.cell 3
      have p4 := hbx.cell 4
      have s0 := h7.cell 0
      have s1 := h7.cell 1
      have s2 := h7.cell 2
      have s3 := h7.cell 3
      have s4 := h7.cell 4
      have pl := hbx.lt
      have sl := h7.lt
      simp only [List.getElem?_toArray, List.getElem?_cons_zero, List.getElem?_cons_succ] at p0 p1 p2 p3 p4 s0 s1 s2 s3 s4
      clear hbx h7
      go_wp2_with fail
      refine (known_any _).mono ?_
      rintro e w8 ⟨rfl, hb8⟩
      have B8 := Lib.hid (B7.out.trans (hb8.mono B7.out.size))
      clear hb8
      go_wp2_with fail
      go_ret
      exact ⟨rfl, B8.out⟩
    · have HGT := Lib.hid ((HG.out M).1 (by rw [HN.out]; omega))
      have hmz : ((m : Int) == 0) = false := by rw [beq_eq_false_iff_ne]; omega
      clear hm0
      refine (get_is A5 (n + m) k5 (Q ++ M) 0 0 { data := #[] } 0 0 2 _ HGT.out HLN.out HI5.out HUU.out (by omega) HC5.out.1).mono ?_
      rintro e w6 ⟨rfl, hb6⟩
      have B6 := Lib.hid (B5.out.trans (hb6.mono B5.out.size))
      obtain ⟨w7, hw7⟩ : ∃ w7 : World, w7 = w6.alloc (.cells #[.int .i64 0, .int .i64 0, .string { data := #[] }, .int .i64 0, .int .i64 0] 23) := ⟨_, rfl⟩
      have hbx : Blk w7 w6.heap.size 23 #[.int .i64 0, .int .i64 0, .string { data := #[] }, .int .i64 0, .int .i64 0] := by rw [hw7]; exact Blk.new _ _ _
      have hb7 : Below w6.heap.size w6 w7 := by rw [hw7]; exact (Below.refl _ _).alloc (Nat.le_refl _) _
      have B7 := Lib.hid (B6.out.trans (hb7.mono B6.out.size))
      clear hb6 hb7
      go_upto_region 6 with fail
      rw [← hw7]
      clear hw7
      have p0 := hbx.cell 0
      have p1 := hbx.cell 1
      have p2 := hbx.cell 2
      have p3 := hbx.cell 3
      have p4 := hbx.cell 4
      have pl := hbx.lt
      simp only [List.getElem?_toArray, List.getElem?_cons_zero, List.getElem?_cons_succ] at p0 p1 p2 p3 p4
      clear hbx
      go_wp2_with fail
      refine (known_any _).mono ?_
      rintro e w8 ⟨rfl, hb8⟩
      have B8 := Lib.hid (B7.out.trans (hb8.mono B7.out.size))
      clear hb8
      go_wp2_with fail
      go_ret
      exact ⟨rfl, B8.out⟩
  · have hxn : (x != 0) = true := by simp [hx0]
    have HP := Lib.hid (show putR ⟨k, t, g, v, i⟩ = ([], x) by unfold putR; rw [if_neg (by rw [HX.out]; exact hx0), HX.out])
    clear hx0
    go_enter Try.func7, Try.ntmps7
    go_wp2_with fail
    rw [← hw0]
    clear hw0
    refine (put_is k t g v i [] x _ hg HP.out).mono ?_
    rintro e w2 ⟨A2, k2, rfl, _, hb2⟩
    have B2 := Lib.hid (B0.out.trans (hb2.mono B0.out.size))
    clear hb2
    go_wp2_with fail
    refine (known_any _).mono ?_
    rintro e w5 ⟨rfl, hb5⟩
    have B5 := Lib.hid (B2.out.trans (hb5.mono B2.out.size))
    clear hb5
    go_wp2_with fail
    go_ret
    exact ⟨rfl, B5.out⟩

theorem own : ownKnob Try.prog.godebug = none := by kernel_rfl

set_option maxRecDepth 100000 in
theorem lifted (os : Os) (started : os.Started) (H : Type) (enc : TypeId × Value → H) :
    ReturnsInHanded {} Try.checked os 7 .any (Rows.recordEndsSpec.pre6 enc Try.prog Try.f7 Rows.recordEndsRow.domain false) (Rows.recordEndsSpec.post enc Try.prog Try.f7 false true false false) := by
  refine law_lifted (C := Try.checked) (tb := 4) own started (by kernel_rfl) Try.func7
    (ChangeSpec.witness6 (enc := enc) (C := Try.checked) false ⟨#[], #[.agg #[.int .i64 0, .int .i64 0, .string ⟨#[]⟩, .int .i64 0, .int .i64 0], .slice none 0 0, .int .i64 0], []⟩ 8 (by kernel_rfl) (by kernel_rfl) (by kernel_rfl) (by kernel_rfl))
    rfl (by kernel_rfl) (by kernel_rfl) (by kernel_rfl) Try.underlying4 (fun ds h => ?_) ?_
  · rw [show Try.f7.params = #[23, 24, 3] from Try.params7] at h
    match ds, h with
    | [_, _, _], _ => rfl
  · intro W base args ds before hval hA hlt hsz
    rw [show Try.f7.params = #[23, 24, 3] from Try.params7] at hA hval hsz
    obtain ⟨v0, vs0, d0, ds0, p0, q0, hargs, rfl, rfl, h0, r0⟩ := trodAll_cons hA
    obtain ⟨v1, vs1, d1, ds1, p1, q1, rfl, rfl, rfl, h1, r1⟩ := trodAll_cons r0
    obtain ⟨v2, vs2, d2, ds2, p2, q2, rfl, rfl, rfl, h2, r2⟩ := trodAll_cons r1
    obtain ⟨rfl, rfl, rfl⟩ := trodAll_nil r2
    obtain rfl : args = #[v0, v1, v2] := by cases args; simp_all
    obtain ⟨⟨k, t, g, v, i⟩, rfl, _, e1, e2, e3, hg⟩ := open_rec (hval 0 _ v0 rfl rfl) h0
    obtain ⟨A, cap, L, rfl, hc, hc2, iA, iL, icA⟩ := open_bytes (j := 1) (hval 1 _ v1 rfl rfl) h1 hsz rfl rfl
    obtain ⟨x2, rfl, rfl, rfl, wf2⟩ := open_int Try.underlying3 (hval 2 _ v2 rfl rfl) h2
    have g1 := I64.of wf2
    exact walk k t g v i A L.length cap L x2 W hg ⟨e1, e2, e3⟩ rfl iA iL icA (by omega) g1.1 g1.2

theorem proved : Rows.RecordEndsSaid :=
  OpenClaim.holds_of_wide 7 Try.f7 rfl rfl rfl rfl rfl rfl rfl ⟨rfl, rfl, rfl, rfl, rfl⟩ rfl rfl rfl rfl rfl (by kernel_rfl) Try.func7 (by kernel_rfl)
    (of_decide_eq_true (by kernel_rfl)) (by unfold Func.isWrapper; rw [if_neg (of_decide_eq_false (by kernel_rfl))]; exact ⟨rfl, rfl⟩)
    (fun os started H enc _ => lifted os started H enc)
#print axioms proved
end RecordEnds
end Go.Proofs.Ytognidoohinipaa
