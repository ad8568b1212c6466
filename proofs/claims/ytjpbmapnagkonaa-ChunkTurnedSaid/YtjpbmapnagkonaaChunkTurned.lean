/-
  What is proved here: the law ChunkTurned returns true for all it is given. Conditions: none.
-/
import Derived.Test.YtjpbmapnagkonaaChkBurst
import Derived.Test.YtjpbmapnagkonaaPick
namespace Go.Proofs.Ytjpbmapnagkonaa
namespace ChunkTurned
open Go.ChangeShapes Go.WideShapes Go.ChangeAt Go.RowKit Go.Deep Go.Joins

/-- where bits may be turned. -/
def Where (fr tl a n : Nat) : Prop := (fr = 2 ∧ tl = 6 ∧ 16 ≤ a ∧ a < 48) ∨ (fr = 6 ∧ tl = 6 + n ∧ 48 ≤ a ∧ a ≤ 48 + 8 * n)
theorem turned_any {p L : List Int} {n : Nat} (hl : p.length = n) (hp : ∀ x ∈ p, U8 x) (hn : n ≤ 1024) {fr tl a c : Nat} (hw : Where fr tl a n) (h : Turned (putL p) fr tl a 32 L c) (h0 : c ≠ 0) : getTo L = ([], 0, 5) := by
  subst hl
  rcases hw with ⟨rfl, rfl, _, _⟩ | ⟨rfl, rfl, h1, h2⟩
  · exact turned_sum hp hn h h0
  · exact turned_pay hp hn h1 h2 h h0
theorem turned_none {p L : List Int} (hp : ∀ x ∈ p, U8 x) (hn : p.length ≤ 1024) {fr tl a : Nat} (h : Turned (putL p) fr tl a 32 L 0) : getTo L = (p, 6 + (p.length : Int), 0) := by
  rw [h.none_ rfl]
  have := get_put (M := []) hp hn
  rw [List.append_nil] at this
  exact this
theorem flip_bits {x : Int} (h : U8 x) {t : Nat} (ht : t < 8) : bits .xor .u8 x (2 ^ t % 256) = ((x.toNat ^^^ 2 ^ t : Nat) : Int) := by
  unfold U8 at h
  have h2 := Nat.pow_lt_pow_right (a := 2) (by omega) ht
  have e : (2 : Int) ^ t = ((2 ^ t : Nat) : Int) := by simp
  rw [e]
  obtain ⟨y, hy⟩ : ∃ y, y = 2 ^ t := ⟨_, rfl⟩
  rw [← hy] at h2 ⊢
  have e2 : ((y : Nat) : Int) % 256 = (y : Int) := by omega
  rw [e2, u8_xor x _ h.1 (by omega) (by omega) (by omega), Int.toNat_natCast]
theorem own_row {w : World} {base l c : Nat} {A : Option Addr} {Q : List Int} (hl : Q.length = l) (h0 : 0 < l) (h : OwnG (IsIntK .u8) w base 5 1 (.slice A l c) l (Q.map (Value.int .u8))) :
    ∃ g, A = some ⟨g, 0, none⟩ ∧ base ≤ g ∧ l ≤ c ∧ c ≤ 9223372036854775807 ∧ IRow .u8 5 w g c Q := by
  subst hl
  rcases irow_of_own h with ⟨_, e⟩ | ⟨g, c', e, h1, h2, h3⟩
  · rw [e] at h0; simp at h0
  · cases e; exact ⟨g, rfl, h1, h3.le, by unfold maxLen at h2; omega, h3⟩

set_option maxRecDepth 100000 in
set_option maxHeartbeats 1000000 in
theorem walk (A : Option Addr) (n cap : Nat) (L : List Int) (at0 mask : Int) (w : World) (hln : L.length = n) (hA : IntsAt .u8 w A L) (hL : ∀ x ∈ L, U8 x) (hcA : A = none → cap = 0) (hn : n ≤ 140737488351232)
    (a1 : -9223372036854775808 ≤ at0) (a2 : at0 ≤ 9223372036854775807) :
    Calls Try.prog 4 #[.slice A n cap, .int .i64 at0, .int .u32 mask] w fun e w' => e = .returned (.bool true) ∧ Below w.heap.size w w' := by
  have HA := Lib.hid hA
  have HL := Lib.hid hL
  have HN := Lib.hid hln
  have HCA := Lib.hid hcA
  clear hA hL hln hcA
  by_cases hbig : 1024 < n
  · go_enter Try.func4, Try.ntmps4
    go_wp2_with fail
    refine (put_long A cap n _ hbig hn).mono ?_
    rintro e w1 ⟨A1, k1, rfl, _, _, hb1⟩
    have B1 := Lib.hid hb1
    clear hb1
    go_wp2_with fail
    refine (known_any _).mono ?_
    rintro e w2 ⟨rfl, hb2⟩
    have HW := Lib.hid (B1.out.trans (hb2.mono B1.out.size))
    clear hb2
    go_wp2_with fail
    go_ret
    exact ⟨rfl, HW.out⟩
  go_enter Try.func4, Try.ntmps4
  go_wp2_with fail
  refine (put_any A cap n L _ HN.out HA.out HCA.out HL.out (by omega)).mono ?_
  rintro e w1 ⟨A1, k1, rfl, hpl, ho1, hb1⟩
  obtain ⟨g, rfl, hgb, hk1, hk2, hrow⟩ := own_row hpl (by omega) ho1
  have B1 := Lib.hid hb1
  have HR1 := Lib.hid hrow
  have HU := Lib.hid (show ∀ x ∈ putL L, U8 x from putL_u8 HL.out (by have := HN.out; omega))
  have HP := Lib.hid hpl
  clear hpl ho1 hb1 hrow
  go_wp2_with fail
  refine (pick_any at0 (8 * (6 + (n : Int) - 2)) _ a1 a2 (by omega) (by omega)).mono ?_
  rintro e wq ⟨rfl, rfl⟩
  obtain ⟨a, ha⟩ : ∃ a : Nat, at0 % (8 * (6 + (n : Int) - 2)) = (a : Int) := ⟨(at0 % (8 * (6 + (n : Int) - 2))).toNat, by have := Int.emod_nonneg at0 (show (8 * (6 + (n : Int) - 2)) ≠ 0 by omega); omega⟩
  have hal : a < 8 * (4 + n) := by have := Int.emod_lt_of_pos at0 (show 0 < (8 * (6 + (n : Int) - 2)) by omega); omega
  rw [ha]
  clear ha
  go_upto_if 32 with fail
  go_cut [9, 10] (fun s9 s10 wx => ∃ fr tl : Nat, s9 = .int .i64 fr ∧ s10 = .int .i64 tl ∧ Where fr tl (a + 16) n ∧ w1 = wx)
  case first =>
    by_cases c : 32 ≤ a
    · have t1 : (32 : Int) ≤ (a : Int) := by omega
      go_wp2_with fail
      go_meet
      exact ⟨6, 6 + n, rfl, by go_num, .inr ⟨rfl, rfl, by omega, by omega⟩, rfl⟩
    · have t1 : ¬ (32 : Int) ≤ (a : Int) := by omega
      go_wp2_with fail
      go_meet
      exact ⟨2, 6, rfl, rfl, .inl ⟨rfl, rfl, by omega, by omega⟩, rfl⟩
  case rest =>
  obtain ⟨fr, tl, rfl, rfl, hwh, rfl⟩ := hcut
  have HW := Lib.hid hwh
  have hb2 : 2 ≤ fr ∧ fr ≤ 6 ∧ tl ≤ 6 + n ∧ 6 ≤ tl := by unfold Where at hwh; omega
  obtain ⟨f1, f2, f3, f4⟩ := hb2
  clear hwh
  go_wp2_with fail
  obtain ⟨b, hb⟩ : ∃ b : Nat, b = a + 16 := ⟨_, rfl⟩
  rw [← hb] at HW
  have eb : ((b : Nat) : Int) = (a : Int) + 16 := by omega
  rw [← eb]
  have hb3 : b ≤ 9000 + 8 * n := by omega
  have HB := Lib.hid hb
  clear eb hb hal
  go_loopg [11, 12] 32 (fun gm nv iv wr => ∃ (i c : Nat) (M : List Int), i ≤ 32 ∧ c ≤ i ∧ gm = 32 - i ∧ iv = .int .i64 i ∧ nv = .int .i64 c ∧ Turned (putL L) fr tl b i M c ∧ IRow .u8 5 wr g k1 M ∧ Below w.heap.size w wr)
  case atStart => exact ⟨0, 0, putL L, by omega, by omega, rfl, rfl, rfl, Turned.start HU.out _ _ _, HR1.out, B1.out⟩
  case round =>
    obtain ⟨i, c, M, hi, hci, rfl, rfl, rfl, hT, hrow, hbw⟩ := hrel
    obtain ⟨wy, rfl⟩ : ∃ wq : World, wq = wr := ⟨_, rfl⟩
    have HT := Lib.hid hT
    have HR := Lib.hid hrow
    have HBW := Lib.hid hbw
    clear hT hrow hbw
    by_cases hlt : i < 32
    · have hii : (i : Int) < 32 := by omega
      obtain ⟨k, hk⟩ : ∃ k : Nat, k = b + i := ⟨_, rfl⟩
      have HK := Lib.hid hk
      have ek : (b : Int) + (i : Int) = (k : Int) := by omega
      have hk3 : k ≤ 10000 + 8 * n := by omega
      clear hk
      go_upto_region 14 with fail
      clear ek
      go_cut [61] (fun s61 wx => ∃ q, s61 = .bool q ∧ (q = true → fr ≤ k / 8 ∧ k / 8 < tl) ∧ wy = wx)
      case first =>
        by_cases c1 : fr ≤ k / 8
        · have t1 : (fr : Int) ≤ (k : Int) / 8 := by omega
          by_cases c2 : k / 8 < tl
          · have t2 : (k : Int) / 8 < (tl : Int) := by omega
            go_wp2_with fail
            all_goals
              go_meet
              exact ⟨_, rfl, fun _ => ⟨c1, c2⟩, rfl⟩
          · have t2 : ¬ (k : Int) / 8 < (tl : Int) := by omega
            go_wp2_with fail
            all_goals
              go_meet
              exact ⟨_, rfl, fun h => by simp at h, rfl⟩
        · have t1 : ¬ (fr : Int) ≤ (k : Int) / 8 := by omega
          go_wp2_with fail
          all_goals
            go_meet
            exact ⟨_, rfl, fun h => by simp at h, rfl⟩
      case rest =>
      obtain ⟨q, rfl, hq, rfl⟩ := hcut
      have HQ := Lib.hid hq
      clear hq
      cases q
      · go_wp2_with fail
        go_roundg (32 - (i + 1))
        case measure => omega
        case rel => exact ⟨i + 1, c, M, by omega, by omega, rfl, by go_num, rfl, HT.out.skip, HR.out, HBW.out⟩
      · obtain ⟨q1, q2⟩ := HQ.out rfl
        have hlen := HT.out.len
        rw [HP.out] at hlen
        obtain ⟨x, hx⟩ : ∃ x, x = M.getD (k / 8) 0 := ⟨_, rfl⟩
        have hu := getD_u8 HT.out.u8 (k / 8)
        have hcell := HR.out.cell (i := k / 8) (by omega)
        have hfr := HR.out.frozen (k / 8)
        have hgl := HR.out.lt
        rw [← hx] at hu hcell
        have HFL := Lib.hid (flip_bits hu (show k % 8 < 8 by omega))
        have HTF := Lib.hid (HT.out.flip HK.out q1 q2 (by rw [HP.out]; omega))
        have HRF := Lib.hid (HR.out.put (k / 8) ((x.toNat ^^^ 2 ^ (k % 8) : Nat) : Int))
        rw [← hx] at HTF
        have HX := Lib.hid hx
        obtain ⟨u1, u2⟩ := hu
        have j1 : ((k : Int) / 8) < 6 + (n : Int) := by omega
        have j0 : 0 ≤ (k : Int) / 8 := by omega
        have j2 : k / 8 < 6 + n := by omega
        clear hlen hx
        go_wp2_with fail
        go_roundg (32 - (i + 1))
        case measure => omega
        case rel =>
          refine ⟨i + 1, c + 1, _, by omega, by omega, rfl, by go_num, by go_num, HTF.out, ?_, ?_⟩
          · rw [HFL.out]
            exact HRF.out
          · exact HBW.out.setCell hgb _
    · obtain rfl : i = 32 := by omega
      have hii : ¬ (32 : Int) < 32 := by omega
      by_cases hc0 : c = 0
      · subst hc0
        have hg := turned_none HL.out (by have := HN.out; omega) HT.out
        have HG := Lib.hid hg
        have hlen := HT.out.len
        rw [HP.out] at hlen
        have HLN := Lib.hid hlen
        have HI := Lib.hid (HR.out.at_)
        have HMU := Lib.hid HT.out.u8
        clear hg hlen
        rw [HN.out] at HG
        go_wp2_with fail
        refine (get_to (some ⟨g, 0, none⟩) (6 + n) k1 M L n (6 + (n : Int)) 0 _ HG.out HN.out HLN.out HI.out HMU.out (by omega) hk1).mono ?_
        rintro e w4 ⟨A4, k4', rfl, _, ho4, hb4⟩
        have HR4 := Lib.hid (reads_of_own (k := .u8) (E := 5) (L := L) (by rw [HN.out]; exact ho4))
        have B4 := Lib.hid (HBW.out.trans (hb4.mono HBW.out.size))
        have HRA := Lib.hid (show Reads .u8 w4 (.slice A n cap) L from ⟨A, cap, by rw [HN.out], HA.out.below B4.out (Nat.le_refl _)⟩)
        clear ho4 hb4
        go_wp2_with fail
        refine (Bytes.same_yes (L := L) HR4.out HRA.out (by rw [HN.out]; omega)).mono ?_
        rintro e w5 ⟨rfl, hb5⟩
        have B5 := Lib.hid (B4.out.trans (hb5.mono B4.out.size))
        clear hb5
        go_wp2_with fail
        refine (known_any _).mono ?_
        rintro e w6 ⟨rfl, hb6⟩
        have HW6 := Lib.hid (B5.out.trans (hb6.mono B5.out.size))
        clear hb6
        go_wp2_with fail
        go_ret
        exact ⟨rfl, HW6.out⟩
      · have HG := Lib.hid (turned_any HN.out HL.out (by omega) HW.out HT.out hc0)
        have hlen := HT.out.len
        rw [HP.out] at hlen
        have HLN := Lib.hid hlen
        have HI := Lib.hid (HR.out.at_)
        have HMU := Lib.hid HT.out.u8
        have tc : ((c : Int) == 0) = false := by rw [beq_eq_false_iff_ne]; omega
        clear hlen
        go_wp2_with fail
        refine (get_to (some ⟨g, 0, none⟩) (6 + n) k1 M [] 0 0 5 _ HG.out rfl HLN.out HI.out HMU.out (by omega) hk1).mono ?_
        rintro e w4 ⟨A4, k4', rfl, _, _, hb4⟩
        have B4 := Lib.hid (HBW.out.trans (hb4.mono HBW.out.size))
        clear hb4
        go_wp2_with fail
        refine (known_any _).mono ?_
        rintro e w6 ⟨rfl, hb6⟩
        have HW6 := Lib.hid (B4.out.trans (hb6.mono B4.out.size))
        clear hb6
        go_wp2_with fail
        go_ret
        exact ⟨rfl, HW6.out⟩

theorem own : ownKnob Try.prog.godebug = none := by kernel_rfl

set_option maxRecDepth 100000 in
theorem lifted (os : Os) (started : os.Started) (H : Type) (enc : TypeId × Value → H) :
    ReturnsInHanded {} Try.checked os 4 .any (Rows.chunkTurnedSpec.pre6 enc Try.prog Try.f4 Rows.chunkTurnedRow.domain false) (Rows.chunkTurnedSpec.post enc Try.prog Try.f4 false true false false) := by
  refine law_lifted (C := Try.checked) (tb := 4) own started (by kernel_rfl) Try.func4
    (ChangeSpec.witness6 (enc := enc) (C := Try.checked) false ⟨#[], #[.slice none 0 0, .int .i64 0, .int .u32 0], []⟩ 8 (by kernel_rfl) (by kernel_rfl) (by kernel_rfl) (by kernel_rfl))
    rfl (by kernel_rfl) (by kernel_rfl) (by kernel_rfl) Try.underlying4 (fun ds h => ?_) ?_
  · rw [show Try.f4.params = #[22, 3, 31] from Try.params4] at h
    match ds, h with
    | [_, _, _], _ => rfl
  · intro W base args ds before hval hA hlt hsz
    rw [show Try.f4.params = #[22, 3, 31] from Try.params4] at hA hval hsz
    obtain ⟨v0, vs0, d0, ds0, p0, q0, hargs, rfl, rfl, h0, r0⟩ := trodAll_cons hA
    obtain ⟨v1, vs1, d1, ds1, p1, q1, rfl, rfl, rfl, h1, r1⟩ := trodAll_cons r0
    obtain ⟨v2, vs2, d2, ds2, p2, q2, rfl, rfl, rfl, h2, r2⟩ := trodAll_cons r1
    obtain ⟨rfl, rfl, rfl⟩ := trodAll_nil r2
    obtain rfl : args = #[v0, v1, v2] := by cases args; simp_all
    obtain ⟨A, cap, L, rfl, hc, hc2, iA, iL, icA⟩ := open_bytes (j := 0) (hval 0 _ v0 rfl rfl) h0 hsz rfl rfl
    obtain ⟨x1, rfl, rfl, rfl, wf1⟩ := open_int Try.underlying3 (hval 1 _ v1 rfl rfl) h1
    obtain ⟨x2, rfl, rfl, rfl, _⟩ := open_int Try.underlying31 (hval 2 _ v2 rfl rfl) h2
    have g1 : -9223372036854775808 ≤ x1 ∧ x1 ≤ 9223372036854775807 := by simpa [Lit.wf, IntKind.min, IntKind.max, IntKind.signed, IntKind.bits] using wf1
    exact walk A L.length cap L x1 x2 W rfl iA iL icA (by omega) g1.1 g1.2

theorem proved : Rows.ChunkTurnedSaid :=
  OpenClaim.holds_of_wide 4 Try.f4 rfl rfl rfl rfl rfl rfl rfl ⟨rfl, rfl, rfl, rfl, rfl⟩ rfl rfl rfl rfl rfl (by kernel_rfl) Try.func4 (by kernel_rfl)
    (of_decide_eq_true (by kernel_rfl)) (by unfold Func.isWrapper; rw [if_neg (of_decide_eq_false (by kernel_rfl))]; exact ⟨rfl, rfl⟩)
    (fun os started H enc _ => lifted os started H enc)
#print axioms proved
end ChunkTurned
end Go.Proofs.Ytjpbmapnagkonaa
