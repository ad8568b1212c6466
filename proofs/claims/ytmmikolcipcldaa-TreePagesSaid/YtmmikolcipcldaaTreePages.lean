/-
  What is proved here: the law TreePages returns true for every degree and every list of operations. Conditions: none.
-/
import Derived.Test.YtmmikolcipcldaaTreeWkOf
import Derived.Test.YtmmikolcipcldaaTreeBackKit
import Derived.Test.YtmmikolcipcldaaTreeOps
import Derived.Test.YtmmikolcipcldaaRows
namespace Go.Proofs.Ytmmikolcipcldaa
namespace TreePages
open Go.ChangeShapes Go.WideShapes Go.ChangeAt Go.RowKit Go.Deep

def PgRes (d : Nat) (l : List NdR) (es : List En) (w : World) (e : Ending) (w' : World) : Prop := Below w.heap.size w w' ∧ ∃ A c dp, e = .returned (.tuple #[.slice A es.length c, .int .i64 (dp : Nat), .int .i64 0]) ∧ EnsAt w' (.slice A es.length c) es ∧ ((l = [] ∧ es = []) ∨ (0 < l.length ∧ ∃ h, dp = 1 + h ∧ 2 * d ^ h ≤ es.length + 1))
theorem rof_pages {d : Nat} {l : List NdR} {es : List En} {A : Option Addr} {c : Nat} {w : World} (hd2 : 2 ≤ d) (hd : d ≤ 16) (hu : Up es) (hl : es.length ≤ 30000) (hp : PagesOf d l es) (hN : NdsAt w (.slice A l.length c) l) :
    Calls Try.prog 24 #[.int .i64 d, .slice A l.length c] w (PgRes d l es w) := by
  rcases Nat.eq_zero_or_pos l.length with h0 | hpos
  · obtain rfl : l = [] := List.eq_nil_of_length_eq_zero h0
    obtain rfl : es = [] := by
      rcases hp.2.2 with ⟨_, h⟩ | ⟨h, _⟩
      · exact h
      · exact absurd h (by simp)
    refine (rof_empty A c w hd2 hd).mono ?_
    rintro e w' ⟨rfl, rfl⟩
    exact ⟨Below.refl _ _, none, 0, 0, rfl, ⟨none, 0, rfl, Nat.le_refl _, .inl ⟨rfl, rfl⟩, fun h => absurd h (by simp)⟩, .inl ⟨rfl, rfl⟩⟩
  · have hE := hp.ofE hpos hu
    obtain ⟨h, hv, hf⟩ : ∃ h, vis l d (l.length + 1) 0 1 (List.replicate l.length false) 0 = some ⟨List.replicate l.length true, 1 + h, es⟩ ∧ 2 * d ^ h ≤ es.length + 1 := by
      rcases hp.2.2 with ⟨rfl, _⟩ | ⟨_, h⟩
      · exact absurd hpos (by simp)
      · exact h
    refine (rof_any hd2 hd hpos (Nat.le_trans hp.1 hl) hN (hp.fit (by omega))).mono ?_
    rintro e w' ⟨hb, ⟨r, A', c', h1, h2, rfl, h4⟩ | ⟨h1, _⟩⟩
    · rw [hv] at h1
      cases h1
      exact ⟨hb, A', c', 1 + h, rfl, OwnE.ens h4, .inr ⟨hpos, h, rfl, hf⟩⟩
    · rw [hE] at h1
      cases h1

set_option maxRecDepth 100000 in
set_option maxHeartbeats 1000000 in
theorem walk (deg : Int) (v : Value) (L : List OpR) (w : World) (h1 : I64 deg) (hl : OpsAt w v L) (hlen : L.length ≤ 140737488351232) :
    Calls Try.prog 6 #[.int .i64 deg, v] w fun e w' => e = .returned (.bool true) ∧ Below w.heap.size w w' := by
  obtain ⟨d, hd⟩ : ∃ d : Nat, (d : Int) = 2 + deg % 15 := ⟨(2 + deg % 15).toNat, by have := Int.emod_nonneg deg (show (15 : Int) ≠ 0 by omega); omega⟩
  have hdd : 2 ≤ d ∧ d ≤ 16 := by have := Int.emod_nonneg deg (show (15 : Int) ≠ 0 by omega); have := Int.emod_lt_of_pos deg (show (0 : Int) < 15 by omega); omega
  have HPK := Lib.hid (show ∀ W, Calls Try.prog 22 #[.int .i64 deg, .int .i64 15] W fun e w' => e = .returned (.int .i64 ((d : Int) - 2)) ∧ W = w' from fun W => (pick_any deg 15 W h1.1 h1.2 (by omega) (by omega)).mono (fun e w' h => ⟨by rw [h.1]; congr 2; omega, h.2⟩))
  have HD := Lib.hid hdd
  have HPL := Lib.hid (played_any hdd.1 hdd.2 hl hlen)
  have HPE := Lib.hid (show (playE L (min L.length 600)).length ≤ 600 from Nat.le_trans (playE_len L _) (Nat.min_le_right _ _))
  have hd2 : (0 : Int) ≤ (d : Int) - 2 := by omega
  have hd16 : (d : Int) ≤ 16 := by omega
  have h2d : IntKind.i64.wrap (2 + ((d : Int) - 2)) = (d : Int) := by rw [IntWalk.i64_in _ (by omega)]; omega
  have h2e : 2 + ((d : Int) - 2) = (d : Int) := by omega
  obtain ⟨es, hes⟩ : ∃ es, es = playE L (min L.length 600) := ⟨_, rfl⟩
  rw [← hes] at HPL HPE
  clear hes hd hdd h1 hl hlen
  go_enter Try.func6, Try.ntmps6
  go_upto_region 2 with (go_at_call 22; (with_reducible refine Calls.mono (HPK.out _) ?_); rintro e w2 ⟨rfl, rfl⟩)
  clear HPK h2d h2e hd2 hd16
  go_upto_region 5 with (go_at_call 12; (with_reducible refine Calls.mono HPL.out ?_); rintro e w1 ⟨tr, rv, rfl, hH, hv⟩)
  obtain ⟨wa, rfl⟩ : ∃ wq : World, wq = w1 := ⟨_, rfl⟩
  have HT := Lib.hid hH
  have HU := Lib.hid hH.up
  have HV := Lib.hid hv
  obtain ⟨Ar, cr, rfl, _⟩ := id hv
  have HN := Lib.hid (hH.nodes HD.out.1 HD.out.2 (by have := HPE.out; omega))
  clear hH hv HPL
  go_upto_region 6 with (go_at_call 23; (with_reducible refine Calls.mono HN.out ?_); rintro e w2 ⟨A9, l, c9, rfl, hO, hb2, hP⟩)
  obtain ⟨wb, rfl⟩ : ∃ wq : World, wq = w2 := ⟨_, rfl⟩
  have HF := Lib.hid (rof_pages HD.out.1 HD.out.2 HU.out (by have := HPE.out; omega) hP hO.at_)
  have HB2 := Lib.hid hb2
  clear hO hb2 hP HN
  go_upto_region 7 with (go_at_call 24; (with_reducible refine Calls.mono HF.out ?_); rintro e w3 ⟨hb3, A2, c2, dp, rfl, hens, hst⟩)
  obtain ⟨wd, rfl⟩ : ∃ wq : World, wq = w3 := ⟨_, rfl⟩
  have hbd : Below wa.heap.size wa wd := HB2.out.trans (hb3.mono HB2.out.size)
  have HS := Lib.hid (same_any hens (HV.out.on hbd (Nat.le_refl _)) (by have := HPE.out; omega))
  rw [decide_eq_true rfl] at HS
  have HST := Lib.hid hst
  have HBD := Lib.hid hbd
  clear hb3 hens hst hbd HF
  go_upto_region 9 with (go_at_call 15; (with_reducible refine Calls.mono HS.out ?_); rintro e w4 ⟨rfl, hb4⟩)
  obtain ⟨we, rfl⟩ : ∃ wq : World, wq = w4 := ⟨_, rfl⟩
  have HBE := Lib.hid (HT.out.bel.trans ((HBD.out.trans (hb4.mono HBD.out.size)).mono HT.out.bel.size))
  clear hb4 HS
  rcases HST.out with ⟨h1, h2⟩ | ⟨h1, h, h2, h3⟩
  · subst h1 h2
    go_wp2_with (go_at_call 11; (with_reducible refine Calls.mono (known_any _) ?_); rintro e w5 ⟨rfl, hb5⟩)
    go_ret
    exact ⟨rfl, HBE.out.trans (hb5.mono HBE.out.size)⟩
  · have hne : ((es.length : Int) == 0) = false := by
      have h4 : 1 ≤ d ^ h := Nat.one_le_pow _ _ (by have := HD.out.1; omega)
      rw [beq_eq_false_iff_ne]
      omega
    have hel : es.length ≤ 600 := HPE.out
    have hw1 : IntKind.i64.wrap ((es.length : Int) + 1) = (es.length : Int) + 1 := IntWalk.i64_in _ (by omega)
    have HH := Lib.hid (And.intro h2 h3)
    have hdp : dp ≤ 1000 := by
      have h4 : h < d ^ h := Nat.lt_pow_self (by have := HD.out.1; omega)
      omega
    clear h1 h2 h3
    go_wp2_with fail
    go_loopg [12, 13] h (fun g' s12 s13 wr => ∃ j p : Nat, j ≤ h ∧ g' = h - j ∧ s13 = .int .i64 ((j : Int) + 1) ∧ s12 = .int .i64 p ∧ p = 2 * d ^ j ∧ we = wr)
    case atStart => exact ⟨0, 2, Nat.zero_le _, rfl, rfl, rfl, by simp, rfl⟩
    case round =>
      obtain ⟨j, p, hj, rfl, rfl, rfl, hp, rfl⟩ := hrel
      have hpow : 2 * d ^ j ≤ 2 * d ^ h := Nat.mul_le_mul_left _ (Nat.pow_le_pow_right (by have := HD.out.1; omega) hj)
      have hpl : p ≤ es.length + 1 := by rw [hp]; exact Nat.le_trans hpow HH.out.2
      have hpi : (p : Int) ≤ (es.length : Int) + 1 := by omega
      by_cases hlt : j < h
      · have hji : (j : Int) + 1 < (dp : Int) := by have := HH.out.1; omega
        obtain ⟨m, hm⟩ : ∃ m, m = p * d := ⟨_, rfl⟩
        have hm2 : m = 2 * d ^ (j + 1) := by rw [hm, hp, Nat.pow_succ, Nat.mul_assoc]
        have hml : m ≤ es.length + 1 := by
          rw [hm2]
          exact Nat.le_trans (Nat.mul_le_mul_left _ (Nat.pow_le_pow_right (by have := HD.out.1; omega) hlt)) HH.out.2
        have hmi : ¬ (es.length : Int) + 1 < (m : Int) := by omega
        have hmul : (p : Int) * (d : Int) = (m : Int) := by rw [hm]; exact (Int.natCast_mul _ _).symm
        have hmw : IntKind.i64.wrap (m : Int) = (m : Int) := IntWalk.i64_in _ (by omega)
        have hmw2 : IntKind.i64.wrap ((p : Int) * (d : Int)) = (m : Int) := by rw [hmul]; exact hmw
        have HM := Lib.hid hm2
        have hjl : (j : Int) ≤ 1000 := by omega
        clear hp hm hm2 hpow
        go_wp2_with fail
        go_roundg (h - (j + 1))
        case measure => omega
        case rel => exact ⟨j + 1, m, by omega, rfl, by go_num, rfl, HM.out, rfl⟩
      · have hji : ¬ (j : Int) + 1 < (dp : Int) := by have := HH.out.1; omega
        clear hp hpow
        go_wp2_with (go_at_call 11; (with_reducible refine Calls.mono (known_any _) ?_); rintro e w5 ⟨rfl, hb5⟩)
        go_ret
        exact ⟨rfl, HBE.out.trans (hb5.mono HBE.out.size)⟩

theorem own : ownKnob Try.prog.godebug = none := by kernel_rfl

set_option maxRecDepth 100000 in
theorem lifted (os : Os) (started : os.Started) (H : Type) (enc : TypeId × Value → H) :
    ReturnsInHanded {} Try.checked os 6 .any (Rows.treePagesSpec.pre6 enc Try.prog Try.f6 Rows.treePagesRow.domain false) (Rows.treePagesSpec.post enc Try.prog Try.f6 false true false false) := by
  refine law_lifted (C := Try.checked) (tb := 4) own started (by kernel_rfl) Try.func6
    (ChangeSpec.witness6 (enc := enc) (C := Try.checked) false ⟨#[], #[.int .i64 0, .slice none 0 0], []⟩ 8 (by kernel_rfl) (by kernel_rfl) (by kernel_rfl) (by kernel_rfl))
    rfl (by kernel_rfl) (by kernel_rfl) (by kernel_rfl) Try.underlying4 (fun ds h => ?_) ?_
  · rw [show Try.f6.params = #[3, 22] from Try.params6] at h
    match ds, h with
    | [_, _], _ => rfl
  · intro W base args ds before hval hA hlt hsz
    rw [show Try.f6.params = #[3, 22] from Try.params6] at hA hval hsz
    obtain ⟨v0, vs0, d0, ds0, p0, q0, hargs, rfl, rfl, h0, r0⟩ := trodAll_cons hA
    obtain ⟨v1, vs1, d1, ds1, p1, q1, rfl, rfl, rfl, h1, r1⟩ := trodAll_cons r0
    obtain ⟨rfl, rfl, rfl⟩ := trodAll_nil r1
    obtain rfl : args = #[v0, v1] := by cases args; simp_all
    obtain ⟨n0, rfl, _, _, wf0⟩ := open_int Try.underlying3 (hval 0 _ v0 rfl rfl) h0
    obtain ⟨L, hL, hl⟩ := open_ops (hval 1 _ v1 rfl rfl) h1 hsz (j := 1) rfl rfl
    exact walk n0 v1 L W (I64.of wf0) hL hl

theorem proved : Rows.TreePagesSaid :=
  OpenClaim.holds_of_wide 6 Try.f6 rfl rfl rfl rfl rfl rfl rfl ⟨rfl, rfl, rfl, rfl, rfl⟩ rfl rfl rfl rfl rfl (by kernel_rfl) Try.func6 (by kernel_rfl)
    (of_decide_eq_true (by kernel_rfl)) (by unfold Func.isWrapper; rw [if_neg (of_decide_eq_false (by kernel_rfl))]; exact ⟨rfl, rfl⟩)
    (fun os started H enc _ => lifted os started H enc)
#print axioms proved
end TreePages
end Go.Proofs.Ytmmikolcipcldaa
