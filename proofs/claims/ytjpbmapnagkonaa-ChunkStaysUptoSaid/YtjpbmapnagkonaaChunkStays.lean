/-
  What is proved here: the law ChunkStays returns true for all it is given. Conditions: what it is given is of bulk at most 1048576 (the second form).
-/
import Derived.Test.YtjpbmapnagkonaaChkRScan
import Derived.Test.YtjpbmapnagkonaaCore3
namespace Go.Proofs.Ytjpbmapnagkonaa
namespace ChunkStays
open Go.ChangeShapes Go.WideShapes Go.ChangeAt Go.RowKit Go.Deep Go.Joins

theorem open_bulk {H : Type} {enc : TypeId × Value → H} {W : World} {A : Option Addr} {n cap : Nat} {d : DataW H} {p : List MemPlace}
    (h : DataW.Trod enc Try.prog W 0 (fun _ => true) true 22 (.slice A n cap) d p) (hup : Rows.uptoBulk d ≤ 1048576) : n ≤ 1048576 := by
  obtain ⟨fuel, hf⟩ := h
  rcases open_ints Try.underlying22 Try.underlying5 (by kernel_rfl) hf with ⟨hcs, _⟩ | ⟨a, l0, c0, zs, hcs, _, hl, _, hz, hx, _⟩
  · simp only [Value.cells, List.cons.injEq, and_true, Value.slice.injEq] at hcs
    omega
  · simp only [Value.cells, List.cons.injEq, and_true, Value.slice.injEq] at hcs
    obtain ⟨rfl, rfl, rfl⟩ := hcs
    simp only [Prod.mk.injEq] at hx
    obtain ⟨rfl, _⟩ := hx
    have h1 := bulk_slice (H := H) (lits .u8 (zs.take n)) (lits .u8 (zs.drop n))
    simp only [lits, List.length_map, List.length_take, List.length_drop, hz, if_true] at h1 hup
    omega
theorem lent_to (A : Option Addr) (n cap : Nat) (L : List Int) (w : World) (hn : L.length = n) (hA : IntsAt .u8 w A L) (hlen : n ≤ 140737488351232) :
    Calls Try.prog 16 #[.slice A n cap] w fun e w' => ∃ g, e = .returned (.slice (some ⟨g, 0, none⟩) n (n + 5)) ∧ w.heap.size ≤ g ∧ IRow .u8 5 w' g (n + 5) (Bytes.lentL L) ∧ Below w.heap.size w w' := by
  subst hn
  exact Bytes.lent_any A cap L w hA (by omega)
theorem kept_to (g n ca cb : Nat) (B : Option Addr) (L : List Int) (w : World) (hn : L.length = n) (hblk : IRow .u8 5 w g (n + 5) (Bytes.lentL L)) (hB : IntsAt .u8 w B L) (hlen : n ≤ 140737488351232) (hca : ca = n + 5) :
    Calls Try.prog 20 #[.slice (some ⟨g, 0, none⟩) n ca, .slice B n cb] w fun e w' => e = .returned (.bool true) ∧ Below w.heap.size w w' := by
  subst hn
  exact Bytes.kept_any g ca B cb L w hblk hB hlen hca

set_option maxRecDepth 100000 in
set_option maxHeartbeats 4000000 in
theorem walk (A : Option Addr) (n cap : Nat) (L : List Int) (w : World) (hln : L.length = n) (hA : IntsAt .u8 w A L) (hL : ∀ x ∈ L, U8 x) (hcA : A = none → cap = 0) (hcap : n ≤ cap) (hn : n ≤ 1048576) :
    Calls Try.prog 5 #[.slice A n cap] w fun e w' => e = .returned (.bool true) ∧ Below w.heap.size w w' := by
  have HA := Lib.hid hA
  have HL := Lib.hid hL
  have HN := Lib.hid hln
  have HCA := Lib.hid hcA
  clear hA hL hln hcA
  obtain ⟨⟨P, m, e⟩, hg⟩ : ∃ p, p = getTo L := ⟨_, rfl⟩
  have HG := Lib.hid hg.symm
  clear hg
  go_enter Try.func5, Try.ntmps5
  go_wp2_with fail
  refine (lent_to A n cap L _ HN.out HA.out (by omega)).mono ?_
  rintro e1 w1 ⟨g, rfl, hwg, hrow, hb1⟩
  have HR1 := Lib.hid hrow
  have HI1 := Lib.hid (Bytes.lent_begin hrow)
  have B1 := Lib.hid hb1
  clear hrow hb1
  go_wp2_with fail
  refine (get_to _ n (n + 5) L P P.length m e _ HG.out rfl HN.out HI1.out HL.out (by omega) (by omega)).mono ?_
  rintro e2 w2 ⟨A2, k2, rfl, _, _, hb2⟩
  have HI2 := Lib.hid (HI1.out.below hb2 (Nat.le_refl _))
  have HR2 := Lib.hid (HR1.out.below hb2 HR1.out.lt)
  have B2 := Lib.hid (B1.out.trans (hb2.mono B1.out.size))
  clear hb2
  go_wp2_with fail
  refine (rget_to A n cap L P P.length m e _ HG.out rfl HN.out (HA.out.below B2.out (Nat.le_refl _)) HL.out (by omega) hcap).mono ?_
  rintro e3 w3 ⟨A3, k3, rfl, _, _, hb3⟩
  have HI3 := Lib.hid (HI2.out.below hb3 (Nat.le_refl _))
  have HR3 := Lib.hid (HR2.out.below hb3 HR2.out.lt)
  have B3 := Lib.hid (B2.out.trans (hb3.mono B2.out.size))
  clear hb3
  go_wp2_with fail
  refine (scan_any (some ⟨g, 0, none⟩) n (n + 5) L _ HN.out HI3.out HL.out (by omega) (by omega) (fun h => by cases h)).mono ?_
  rintro e4 w4 ⟨A4, k4, rfl, _, hb4⟩
  have HR4 := Lib.hid (HR3.out.below hb4 HR3.out.lt)
  have B4 := Lib.hid (B3.out.trans (hb4.mono B3.out.size))
  clear hb4
  go_wp2_with fail
  refine (rscan_any A n cap L _ HN.out (HA.out.below B4.out (Nat.le_refl _)) HL.out (by omega) hcap HCA.out).mono ?_
  rintro e5 w5 ⟨A5, k5, rfl, _, hb5⟩
  have HR5 := Lib.hid (HR4.out.below hb5 HR4.out.lt)
  have B5 := Lib.hid (B4.out.trans (hb5.mono B4.out.size))
  clear hb5
  go_wp2_with fail
  refine (kept_to g n (n + 5) cap A L _ HN.out HR5.out (HA.out.below B5.out (Nat.le_refl _)) (by omega) rfl).mono ?_
  rintro e6 w6 ⟨rfl, hb6⟩
  have B6 := Lib.hid (B5.out.trans (hb6.mono B5.out.size))
  clear hb6
  go_wp2_with fail
  go_ret
  exact ⟨rfl, B6.out⟩

theorem own : ownKnob Try.prog.godebug = none := by kernel_rfl

set_option maxRecDepth 100000 in
theorem lifted (os : Os) (started : os.Started) (H : Type) (enc : TypeId × Value → H) (F : Stop.Interp) :
    ReturnsInHanded {} Try.checked os 5 .any ((Rows.OpenSpec.upto Rows.chunkStaysSpec).pre6 enc Try.prog Try.f5 Rows.chunkStaysUptoRow.domain false) (((Rows.OpenSpec.upto Rows.chunkStaysSpec).at F).post enc Try.prog Try.f5 false true false false) := by
  refine law_lifted_upto (C := Try.checked) (s := Rows.chunkStaysSpec) (tb := 4) own started (by kernel_rfl) Try.func5
    (OpenSpec.witness (enc := enc) (C := Try.checked) (s := Rows.OpenSpec.upto Rows.chunkStaysSpec) (k := Rows.uptoSmall) rfl false ⟨#[], #[.slice none 0 0], []⟩ 8 (by kernel_rfl) (by kernel_rfl) (by kernel_rfl) (x := ([.nil], [], [])) (by kernel_rfl) rfl (by kernel_rfl))
    rfl (by kernel_rfl) (by kernel_rfl) (by kernel_rfl) Try.underlying4 (fun ds h => ?_) ?_
  · rw [show Try.f5.params = #[22] from Try.params5] at h
    match ds, h with
    | [_], _ => rfl
  · intro W base args ds before hval hA hlt hsz hup
    rw [show Try.f5.params = #[22] from Try.params5] at hA hval hsz
    obtain ⟨v0, vs0, d0, ds0, p0, q0, hargs, rfl, rfl, h0, r0⟩ := trodAll_cons hA
    obtain ⟨rfl, rfl, rfl⟩ := trodAll_nil r0
    obtain rfl : args = #[v0] := by cases args; simp_all
    obtain ⟨A, cap, L, rfl, hc, hc2, iA, iL, icA⟩ := open_bytes (j := 0) (hval 0 _ v0 rfl rfl) h0 hsz rfl rfl
    exact walk A L.length cap L W rfl iA iL icA hc (open_bulk h0 (Nat.le_trans (bulk_part (by simp)) hup))

theorem proved : Rows.ChunkStaysUptoSaid :=
  OpenClaim.holds_of_cond 5 Try.f5 rfl rfl rfl rfl rfl rfl rfl ⟨rfl, rfl, rfl, rfl, rfl⟩ rfl rfl rfl rfl rfl (by kernel_rfl) Try.func5 (by kernel_rfl)
    (of_decide_eq_true (by kernel_rfl)) (by unfold Func.isWrapper; rw [if_neg (of_decide_eq_false (by kernel_rfl))]; exact ⟨rfl, rfl⟩)
    (fun os started H enc _ F => lifted os started H enc F)
#print axioms proved
end ChunkStays
end Go.Proofs.Ytjpbmapnagkonaa
