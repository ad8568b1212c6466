/-
  What is proved here: Get of any bytes, of package chunk and of its reference; the chapter's example (known); what comes in (chapter 13). Conditions: each theorem's own.
-/
import Derived.Test.YtjpbmapnagkonaaChkRGet
import Derived.Lib.SlBytesConst
namespace Go.Proofs.Ytjpbmapnagkonaa
open Go.ChangeShapes Go.WideShapes Go.ChangeAt Go.RowKit Go.Deep Go.Joins

theorem getTo_short {L : List Int} (h : L.length < 6) : getTo L = ([], 0, 1) := if_pos h
theorem get_all (A : Option Addr) (n cap : Nat) (L : List Int) (w : World) (hln : L.length = n) (hA : IntsAt .u8 w A L) (hL : ∀ x ∈ L, U8 x) (hn2 : n ≤ 140737488351232) (hcap : n ≤ cap) :
    Calls Try.prog 12 #[.slice A n cap] w (GetBack (getTo L).1 (getTo L).1.length (getTo L).2.1 (getTo L).2.2 w) := by
  by_cases h : n < 6
  · rw [getTo_short (by omega)]
    exact get_short A n cap w h
  · obtain ⟨b, off, rfl, hlt, hc⟩ := hA (by omega)
    exact get_rest b off n cap L w hln (fun _ => ⟨b, off, rfl, hlt, hc⟩) hL (by omega) hn2 hcap
theorem rget_all (A : Option Addr) (n cap : Nat) (L : List Int) (w : World) (hln : L.length = n) (hA : IntsAt .u8 w A L) (hL : ∀ x ∈ L, U8 x) (hn2 : n ≤ 140737488351232) (hcap : n ≤ cap) :
    Calls Try.prog 17 #[.slice A n cap] w (GetBack (getTo L).1 (getTo L).1.length (getTo L).2.1 (getTo L).2.2 w) := by
  by_cases h : n < 6
  · rw [getTo_short (by omega)]
    exact rget_short A n cap w h
  · obtain ⟨b, off, rfl, hlt, hc⟩ := hA (by omega)
    exact rget_rest b off n cap L w hln (fun _ => ⟨b, off, rfl, hlt, hc⟩) hL (by omega) hn2 hcap
/-- what a payload's chunk is read as, whatever stands behind it. -/
theorem get_put {P M : List Int} (hP : ∀ x ∈ P, U8 x) (hn : P.length ≤ 1024) : getTo (putL P ++ M) = (P, 6 + (P.length : Int), 0) := by
  have hs := sumL_in hP (by omega)
  have e0 : (putL P ++ M).getD 0 0 = (P.length : Int) / 256 := rfl
  have e1 : (putL P ++ M).getD 1 0 = (P.length : Int) % 256 := rfl
  have e2 : (putL P ++ M).getD 2 0 = sumL P / 16777216 := rfl
  have e3 : (putL P ++ M).getD 3 0 = sumL P / 65536 % 256 := rfl
  have e4 : (putL P ++ M).getD 4 0 = sumL P / 256 % 256 := rfl
  have e5 : (putL P ++ M).getD 5 0 = sumL P % 256 := rfl
  have hl : lenI (putL P ++ M) = P.length := by unfold lenI; rw [e0, e1]; omega
  have hd : (putL P ++ M).drop 6 = P ++ M := rfl
  have hp : payL (putL P ++ M) = P := by
    unfold payL
    rw [hl, hd, Int.toNat_natCast, List.take_append_of_le_length (Nat.le_refl _), List.take_length]
  have hlen : (putL P ++ M).length = 6 + P.length + M.length := by rw [List.length_append, putL_len]
  unfold getTo
  rw [if_neg (by rw [hlen]; omega), if_neg (by rw [hl]; omega), if_neg (by rw [hl, hlen]; omega), hp, hl, if_pos]
  unfold sumB
  rw [e2, e3, e4, e5]
  unfold U32 at hs
  omega
theorem open_bytes {H : Type} {enc : TypeId × Value → H} {W : World} {b0 : Nat} {v : Value} {d : DataW H} {p : List MemPlace}
    (hv : Value.okWide Try.prog W .any b0 22 v) (h : DataW.Trod enc Try.prog W 0 (fun _ => true) true 22 v d p)
    {ts : List TypeId} {ds : List (DataW H)} (hsz : (DataW.weightsEach Try.prog ts ds).all (· ≤ reachBytes) = true) {j : Nat} (hj : ts[j]? = some 22) (hd : ds[j]? = some d) :
    ∃ (A : Option Addr) (cap : Nat) (L : List Int), v = .slice A L.length cap ∧ L.length ≤ cap ∧ cap ≤ 140737488351232 ∧ IntsAt .u8 W A L ∧ (∀ x ∈ L, U8 x) ∧ (A = none → cap = 0) := by
  have h' := h
  obtain ⟨A, cap, L, rfl, h1, h2, h3, h4⟩ := open_ints_at (k := .u8) (n := 1) Try.underlying22 Try.underlying5 (by kernel_rfl) (by kernel_rfl) hv h hsz hj hd
  refine ⟨A, cap, L, rfl, h1, by omega, h3, fun x hx => ?_, fun e => ?_⟩
  · have := h4 x hx
    simp [Lit.wf, IntKind.min, IntKind.max, IntKind.signed, IntKind.bits] at this
    exact ⟨by omega, by omega⟩
  · obtain ⟨fuel, hf⟩ := h'
    rcases open_ints Try.underlying22 Try.underlying5 (by kernel_rfl) hf with ⟨hcs, _⟩ | ⟨a, l0, c0, zs, hcs, _⟩
    · simp only [Value.cells, List.cons.injEq, and_true, Value.slice.injEq] at hcs
      exact hcs.2.2
    · simp only [Value.cells, List.cons.injEq, and_true, Value.slice.injEq] at hcs
      rw [e] at hcs
      cases hcs.1

def abc : List Int := [97, 98, 99]
theorem abc_u8 : ∀ x ∈ abc, U8 x := by intro x hx; simp [abc] at hx; rcases hx with rfl | rfl | rfl <;> exact ⟨by decide, by decide⟩
def bad : List Int := [0, 1, 0, 0, 0, 0, 5]
theorem bad_u8 : ∀ x ∈ bad, U8 x := by
  intro x hx
  have : x = 0 ∨ x = 1 ∨ x = 5 := by simp [bad] at hx; omega
  rcases this with rfl | rfl | rfl <;> exact ⟨by decide, by decide⟩
theorem put_to (A : Option Addr) (n cap l : Nat) (L : List Int) (w : World) (hl : 6 + n = l) (hln : L.length = n) (hA : IntsAt .u8 w A L) (hcap : A = none → cap = 0) (hL : ∀ x ∈ L, U8 x) (hn : n ≤ 1024) :
    Calls Try.prog 11 #[.slice A n cap] w (PutBack (putL L) l 0 w) := by
  subst hl
  exact put_any A cap n L w hln hA hcap hL hn
theorem get_to (A : Option Addr) (n cap : Nat) (L P : List Int) (l : Nat) (m e : Int) (w : World) (h : getTo L = (P, m, e)) (hl : P.length = l) (hln : L.length = n) (hA : IntsAt .u8 w A L) (hL : ∀ x ∈ L, U8 x) (hn2 : n ≤ 140737488351232) (hcap : n ≤ cap) :
    Calls Try.prog 12 #[.slice A n cap] w (GetBack P l m e w) := by
  subst hl
  have := get_all A n cap L w hln hA hL hn2 hcap
  rw [h] at this
  exact this
theorem rget_to (A : Option Addr) (n cap : Nat) (L P : List Int) (l : Nat) (m e : Int) (w : World) (h : getTo L = (P, m, e)) (hl : P.length = l) (hln : L.length = n) (hA : IntsAt .u8 w A L) (hL : ∀ x ∈ L, U8 x) (hn2 : n ≤ 140737488351232) (hcap : n ≤ cap) :
    Calls Try.prog 17 #[.slice A n cap] w (GetBack P l m e w) := by
  subst hl
  have := rget_all A n cap L w hln hA hL hn2 hcap
  rw [h] at this
  exact this
theorem own_cap {k : IntKind} {E : TypeId} {w : World} {base n c : Nat} {A : Option Addr} {xs : List Value} (h : OwnG (IsIntK k) w base E 1 (.slice A n c) n xs) : n ≤ c ∧ (A = none → c = 0) := by
  rcases h.1.2 with ⟨e, h0⟩ | ⟨g, cap, cur, e, _, _, h1, _⟩
  · cases e; exact ⟨Nat.le_refl _, fun _ => rfl⟩
  · cases e; exact ⟨h1, fun e => by cases e⟩
theorem bad_get : getTo bad = ([], 0, 5) := by kernel_rfl
theorem abc_get : getTo (putL abc) = (abc, 9, 0) := by have := get_put (M := []) abc_u8 (by decide); rw [List.append_nil] at this; exact this
theorem bits_u8 (x : Int) (h : 0 ≤ x ∧ x ≤ 255) : U8 x := h
theorem tailL_u8 {s : Int} (h : U32 s) : ∀ x ∈ tailL s, U8 x := by
  intro x hx
  unfold U32 at h
  simp [tailL] at hx
  unfold U8
  rcases hx with rfl | rfl | rfl | rfl <;> omega
theorem putL_u8 {p : List Int} (h : ∀ x ∈ p, U8 x) (hn : p.length ≤ 65535) : ∀ x ∈ putL p, U8 x := by
  intro x hx
  unfold putL at hx
  simp only [List.mem_append] at hx
  rcases hx with (hx | hx) | hx
  · exact headL_u8 hn x hx
  · exact tailL_u8 (sumL_in h hn) x hx
  · exact h x hx

theorem ints_mark {k : IntKind} {E : TypeId} {fr : Nat × Nat} (w : World) (cs : Array Value) {L : List Int} (e : cs.toList = L.map (Value.int k)) : IntsAt k (w.alloc (.cells cs E fr)) (some ⟨w.heap.size, 0, none⟩) L := by
  intro _
  refine ⟨w.heap.size, 0, rfl, by simp, fun i hi => ?_⟩
  rw [Nat.zero_add, World.cell?_alloc_mark w cs E fr i, ← Array.getElem?_toList, e]
  exact ints_get k L i hi

set_option maxRecDepth 100000 in
set_option maxHeartbeats 2000000 in
theorem known_any (w : World) : Calls Try.prog 10 #[] w fun e w' => e = .returned (.bool true) ∧ Below w.heap.size w w' := by
  have HAB := Lib.hid (ints_mark (k := .u8) (E := 5) (fr := (3, 4)) (L := abc) w #[.int .u8 97, .int .u8 98, .int .u8 99] rfl)
  have HCV := Lib.hid (fun W : World => Lib.run_convert_bytes_const (P := Try.prog) W 22 5 #[.int .u8 97, .int .u8 98, .int .u8 99] 3 3 Try.underlying22 Try.underlying5)
  have HPU := Lib.hid (putL_u8 abc_u8 (by decide))
  have hcv := HCV.out w
  go_enter Try.func10, Try.ntmps10
  go_wp2_with fail
  refine (put_to _ 3 3 9 abc _ rfl rfl HAB.out (fun e => by cases e) abc_u8 (by decide)).mono ?_
  rintro e w1 ⟨A1, k1, rfl, hpl, ho1, hb1⟩
  obtain ⟨hk1, _⟩ := own_cap ho1
  obtain ⟨g, o, rfl, hgl, hc⟩ := (own_ints ho1) (by rw [hpl]; decide)
  have HI1 := Lib.hid (own_ints ho1)
  have HP1 := Lib.hid hpl
  have c0 := hc 0 (by rw [hpl]; decide)
  have c1 := hc 1 (by rw [hpl]; decide)
  have C0 := Lib.hid (show w1.cell? ⟨g, o + 0, none⟩ = some (.int .u8 0) from c0)
  have C1 := Lib.hid (show w1.cell? ⟨g, o + 1, none⟩ = some (.int .u8 3) from c1)
  have B1 := Lib.hid (((Below.refl w.heap.size w).alloc (Nat.le_refl _) (.cells #[.int .u8 97, .int .u8 98, .int .u8 99] 5 (3, 4))).trans (hb1.mono (by simp)))
  clear hcv hc c0 c1 ho1 hb1 hpl
  go_wp2_with fail
  refine (get_to _ 9 k1 (putL abc) abc 3 9 0 _ abc_get rfl HP1.out HI1.out HPU.out (by decide) hk1).mono ?_
  rintro e w2 ⟨A2, k2, rfl, _, ho2, hb2⟩
  have HR2 := Lib.hid (reads_of_own (k := .u8) (E := 5) (L := abc) ho2)
  have B2 := Lib.hid hb2
  clear ho2 hb2
  go_wp2_with fail
  refine (get_to _ 7 7 bad [] 0 0 5 _ bad_get rfl rfl ((irow_blk (Blk.new _ _ _) rfl rfl).at_) bad_u8 (by decide) (by decide)).mono ?_
  rintro e w3 ⟨A3, k3, rfl, _, _, hb3⟩
  have hb3' := ((Below.refl w2.heap.size w2).alloc (Nat.le_refl _) (.cells #[.int .u8 0, .int .u8 1, .int .u8 0, .int .u8 0, .int .u8 0, .int .u8 0, .int .u8 5] 5)).trans (hb3.mono (by simp))
  have B3 := Lib.hid (B2.out.trans (hb3'.mono B2.out.size))
  have HR3 := Lib.hid (HR2.out.below hb3')
  have c0 := (B3.out.cell (p := ⟨g, o, none⟩) hgl).trans C0.out
  have c1 := (B3.out.cell (p := ⟨g, o + 1, none⟩) hgl).trans C1.out
  clear hb3 hb3'
  have hcv := HCV.out w3
  go_wp2_with fail
  refine (Bytes.same_yes (L := abc) (HR3.out.below ((Below.refl _ _).alloc (Nat.le_refl _) _)) ⟨_, _, rfl, ints_mark (k := .u8) (L := abc) _ _ rfl⟩ (by decide)).mono ?_
  rintro e w4 ⟨rfl, hb4⟩
  have hb4' := ((Below.refl w3.heap.size w3).alloc (Nat.le_refl _) (.cells #[.int .u8 97, .int .u8 98, .int .u8 99] 5 (3, 4))).trans (hb4.mono (by simp))
  have B4 := Lib.hid (B1.out.trans ((B3.out.trans (hb4'.mono B3.out.size)).mono B1.out.size))
  clear hb4 hb4' c0 c1 hcv
  go_wp2_with fail
  go_ret
  exact ⟨rfl, B4.out⟩
end Go.Proofs.Ytjpbmapnagkonaa
