/-
  What is proved here: lists of bytes that come in read as lists; what 'rows' cuts of them (chapter 13). Conditions: each theorem's own.
-/
import Derived.Test.YtjpbmapnagkonaaChkPre
import Derived.Deep.Matrix
import Derived.Deep.AppendLies
import Derived.Deep.RegionHeld3
namespace Go.Proofs.Ytjpbmapnagkonaa
open Go.RowKit Go.Deep Go.Joins Go.WideShapes Go.ChangeShapes Go.ChangeAt

theorem open_rows {H : Type} {enc : TypeId × Value → H} {W : World} {b0 : Nat} {v : Value} {d : DataW H} {p : List MemPlace}
    (hv : Value.okWide Try.prog W .any b0 35 v) (h : DataW.Trod enc Try.prog W 0 (fun _ => true) true 35 v d p) :
    ∃ (A : Option Addr) (cap : Nat) (Ls : List (List Int)), v = .slice A Ls.length cap ∧ Ls.length ≤ 9223372036854775807 ∧ RowsAt W A Ls ∧ (∀ L ∈ Ls, ∀ x ∈ L, U8 x) ∧ ∀ L ∈ Ls, L.length ≤ 9223372036854775807 := by
  obtain ⟨a0, len0, cap0, rfl⟩ := okWide_slice Try.underlying35 hv
  obtain ⟨fuel, hf⟩ := h
  rcases open_int_rows (k := .u8) Try.underlying35 Try.underlying22 Try.underlying5 (by kernel_rfl) (by kernel_rfl) hf with ⟨hcs, _⟩ | ⟨a, len, cap, A, L, C, Z, hcs, _, hl, hm, _, hr⟩
  · simp only [Value.cells, List.cons.injEq, and_true, Value.slice.injEq] at hcs
    obtain ⟨rfl, rfl, rfl⟩ := hcs
    exact ⟨none, 0, [], rfl, by simp, RowsAt.nil_ _ _, fun _ h => absurd h (by simp), fun _ h => absurd h (by simp)⟩
  · simp only [Value.cells, List.cons.injEq, and_true, Value.slice.injEq] at hcs
    obtain ⟨rfl, rfl, rfl⟩ := hcs
    have hlen : ((List.range len0).map fun r => (Z r).take (L r)).length = len0 := by simp
    have hget : ∀ i, i < len0 → ((List.range len0).map fun r => (Z r).take (L r)).getD i [] = (Z i).take (L i) := fun i hi => by simp [hi]
    have hmem : ∀ M ∈ (List.range len0).map (fun r => (Z r).take (L r)), ∃ r, r < len0 ∧ M = (Z r).take (L r) := fun M hM => by
      obtain ⟨r, h1, h2⟩ := List.mem_map.1 hM
      exact ⟨r, List.mem_range.1 h1, h2.symm⟩
    refine ⟨some a, cap0, (List.range len0).map fun r => (Z r).take (L r), by rw [hlen], by rw [hlen]; unfold maxLen at hm; omega, fun hp => ?_, fun M hM x hx => ?_, fun M hM => ?_⟩
    · rw [hlen] at hp
      obtain ⟨b, off, spot⟩ := a
      have hspot : spot = none := by simpa [Addr.add] using World.cell?_spot (hr 0 (by omega)).1
      subst hspot
      refine ⟨b, off, rfl, ?_, fun i hi => ?_⟩
      · have h0 := (hr 0 (by omega)).1
        rw [Go.WideShapes.add_plain] at h0
        exact World.block_lt_of_cell? _ _ h0
      · rw [hlen] at hi
        obtain ⟨h1, h2, h3, h4, h5, h6, h7⟩ := hr i (by omega)
        have hzl : ((Z i).take (L i)).length = L i := by rw [List.length_take]; omega
        rw [hget i hi, hzl]
        rw [Go.WideShapes.add_plain] at h1
        refine ⟨A i, C i, h1, fun hp => ?_, h2, h6⟩
        rw [hzl] at hp
        cases hAi : A i with
        | none => have := h6 hAi; omega
        | some a' =>
          obtain ⟨_, hc⟩ := h7 a' hAi
          obtain ⟨b', o', rfl, hc'⟩ := ints_at (zs := Z i) (fun j hj => hc j (by omega)) (by omega)
          refine ⟨b', o', rfl, World.block_lt_of_cell? _ _ (hc' 0 (by omega)), fun j hj => ?_⟩
          rw [hzl] at hj
          have e : ((Z i).take (L i)).getD j 0 = (Z i).getD j 0 := by
            rw [List.getD_eq_getElem?_getD, List.getElem?_take, if_pos hj, List.getD_eq_getElem?_getD]
          rw [e]
          exact hc' j (by omega)
    · obtain ⟨r, hr', rfl⟩ := hmem M hM
      obtain ⟨_, _, _, _, h5, _⟩ := hr r (by omega)
      have := h5 x (List.mem_of_mem_take hx)
      simp [Lit.wf, IntKind.min, IntKind.max, IntKind.signed, IntKind.bits] at this
      exact ⟨by omega, by omega⟩
    · obtain ⟨r, hr', rfl⟩ := hmem M hM
      obtain ⟨_, h2, h3, _⟩ := hr r (by omega)
      rw [List.length_take]
      unfold maxLen at h3
      omega

/-- payloads cut to what may be laid, at most sixty. -/
def cutL (Ls : List (List Int)) : List (List Int) := (Ls.take 60).map (·.take 1024)
/-- slices of older memory in a row of the call's own. -/
def RowsCut (w wr : World) (base : Nat) (v : Value) (i : Nat) (Rs : List (List Int)) : Prop :=
  ∃ xs : List Value, wr.ownsRow base 22 1 v i xs ∧ ∀ j, j < i → ∃ Aj cj, xs[j]? = some (.slice Aj (Rs.getD j []).length cj) ∧ IntsAt .u8 w Aj (Rs.getD j []) ∧ (Rs.getD j []).length ≤ cj ∧ (Aj = none → cj = 0)
theorem ints_take {k : IntKind} {w : World} {A : Option Addr} {L : List Int} (h : IntsAt k w A L) (a : Nat) : IntsAt k w A (L.take a) := by
  intro hp
  rw [List.length_take] at hp
  obtain ⟨b, o, e, hlt, hc⟩ := h (by omega)
  refine ⟨b, o, e, hlt, fun i hi => ?_⟩
  rw [List.length_take] at hi
  rw [hc i (by omega)]
  have e2 : (L.take a).getD i 0 = L.getD i 0 := by
    rw [List.getD_eq_getElem?_getD, List.getElem?_take, if_pos (by omega), List.getD_eq_getElem?_getD]
  rw [e2]
theorem RowsCut.done {w wr : World} {base cap i : Nat} {B : Option Addr} {Rs : List (List Int)} (h : RowsCut w wr base (.slice B i cap) i Rs) (hi : i = Rs.length) (hb : Below w.heap.size w wr) : RowsAt wr B Rs := by
  subst hi
  intro hp
  obtain ⟨xs, ho, hr⟩ := h
  rcases ho.2 with ⟨_, h0⟩ | ⟨g, c, cur, hv, hbg, hh, hn, hm, hs, ht⟩
  · omega
  cases hv
  have hlt : g < wr.heap.size := by
    rcases Nat.lt_or_ge g wr.heap.size with hlt | hge
    · exact hlt
    · rw [Array.getElem?_eq_none hge] at hh; cases hh
  refine ⟨g, 0, rfl, hlt, fun i hi => ?_⟩
  obtain ⟨Ai, ci, e1, e2, e3⟩ := hr i hi
  refine ⟨Ai, ci, ?_, e2.below hb (Nat.le_refl _), e3⟩
  have hc := cell_of_row wr g i cur 22 (0, 0) hh
  rw [Nat.zero_add, hc, ← Array.getElem?_toList]
  have e4 : (cur.toList.take (Rs.length * 1))[i]? = xs[i]? := by rw [ht]
  rw [List.getElem?_take, if_pos (by omega)] at e4
  rw [e4, e1]
theorem RowsCut.push {w wr w2 : World} {base i : Nat} {v v' : Value} {Rs : List (List Int)} {xs : List Value} {A : Option Addr} {c m : Nat} (hr : ∀ j, j < i → ∃ Aj cj, xs[j]? = some (.slice Aj (Rs.getD j []).length cj) ∧ IntsAt .u8 w Aj (Rs.getD j []) ∧ (Rs.getD j []).length ≤ cj ∧ (Aj = none → cj = 0))
    (hx : wr.ownsRow base 22 1 v i xs) (ho : w2.ownsRow base 22 1 v' (i + 1) (xs ++ [.slice A m c])) (hm : (Rs.getD i []).length = m) (hA : IntsAt .u8 w A (Rs.getD i [])) (hmc : m ≤ c) (hc : A = none → c = 0) : RowsCut w w2 base v' (i + 1) Rs := by
  have hxl : xs.length = i := by have := hx.1; simpa using this
  refine ⟨_, ho, fun j hj => ?_⟩
  by_cases hlt : j < i
  · obtain ⟨Aj, cj, e, r⟩ := hr j hlt
    exact ⟨Aj, cj, by rw [List.getElem?_append_left (by omega)]; exact e, r⟩
  · obtain rfl : j = i := by omega
    exact ⟨A, c, by rw [List.getElem?_append_right (by omega), hxl, hm]; simp, hA, by omega, hc⟩

def RowsBack (w : World) (Rs : List (List Int)) (e : Ending) (w' : World) : Prop :=
  ∃ B c, e = .returned (.slice B Rs.length c) ∧ RowsAt w' B Rs ∧ Below w.heap.size w w' ∧ Rs.length ≤ c
theorem owns_slice {w : World} {base e size n : Nat} {v : Value} {xs : List Value} (h : w.ownsRow base e size v n xs) : ∃ A cap, v = .slice A n cap := by
  rcases h.2 with ⟨hv, h0⟩ | ⟨g, cap, cur, hv, _⟩
  · exact ⟨none, 0, by rw [hv, h0]⟩
  · exact ⟨_, cap, hv⟩

theorem owns_cap {w : World} {base e size n c : Nat} {A : Option Addr} {xs : List Value} (h : w.ownsRow base e size (.slice A n c) n xs) : n ≤ c := by
  rcases h.2 with ⟨hv, h0⟩ | ⟨g, cap, cur, hv, _, _, hn, _⟩
  · cases hv; exact Nat.le_refl _
  · cases hv; exact hn

set_option maxRecDepth 100000 in
set_option maxHeartbeats 2000000 in
theorem rows_any (A : Option Addr) (n cap : Nat) (Ls : List (List Int)) (w : World) (hln : Ls.length = n) (hA : RowsAt w A Ls) (hn : n ≤ 9223372036854775807) (hl : ∀ L ∈ Ls, L.length ≤ 9223372036854775807) :
    Calls Try.prog 24 #[.slice A n cap] w (RowsBack w (cutL Ls)) := by
  have HA := Lib.hid hA
  have HN := Lib.hid hln
  have HLL := Lib.hid hl
  obtain ⟨d, hd⟩ : ∃ d, d = (cutL Ls).length := ⟨_, rfl⟩
  have hdl : d = min 60 n := by rw [hd, cutL, List.length_map, List.length_take, hln]
  have HD := Lib.hid hd.symm
  have hd1 : d ≤ 60 := by omega
  have hd2 : d ≤ n := by omega
  have HDL := Lib.hid hdl
  have HGD := Lib.hid (show ∀ i, i < d → (cutL Ls).getD i [] = (Ls.getD i []).take 1024 from fun i hi => by
    unfold cutL
    rw [List.getD_eq_getElem?_getD, List.getElem?_map, List.getElem?_take, if_pos (by omega), List.getD_eq_getElem?_getD, List.getElem?_eq_getElem (by omega)]
    rfl)
  obtain ⟨i0, hi0, hz0, hz1, hz2⟩ := info_parts info22
  have HI0 := Lib.hid hi0
  have HZ0 := Lib.hid hz0
  have HZ1 := Lib.hid hz1
  have HZ2 := Lib.hid hz2
  clear hi0 hz0 hz1 hz2 hA hln hl hd hdl
  go_enter Try.func24, Try.ntmps24
  go_wp2
  go_loopg [3, 4] d (fun g ov iv wr => ∃ i : Nat, i ≤ d ∧ g = d - i ∧ iv = .int .i64 i ∧ RowsCut w wr w.heap.size ov i (cutL Ls) ∧ Below w.heap.size w wr)
  case atStart => exact ⟨0, Nat.zero_le _, rfl, rfl, ⟨[], ⟨rfl, .inl ⟨rfl, rfl⟩⟩, fun j hj => absurd hj (by omega)⟩, Below.refl _ _⟩
  case round =>
    obtain ⟨i, hi, rfl, rfl, hrows, hbw⟩ := hrel
    obtain ⟨wy, rfl⟩ : ∃ wq : World, wq = wr := ⟨_, rfl⟩
    have HRW := Lib.hid hrows
    have HBW := Lib.hid hbw
    have hzy := hbw.size
    obtain ⟨xs, hx, hr⟩ := hrows
    obtain ⟨Ao, co, rfl⟩ := owns_slice hx
    have HX := Lib.hid hx
    have HRR := Lib.hid hr
    by_cases hlt : i < d
    · have hii : (i : Int) < (n : Int) := by omega
      have hi60 : (i : Int) < 60 := by omega
      have hi00 : (0 : Int) ≤ (i : Int) := by omega
      obtain ⟨b, off, rfl, hbl, hrow⟩ := HA.out (by rw [HN.out]; omega)
      obtain ⟨Ai, ci, hcell, hints, hlc, hnc⟩ := hrow i (by rw [HN.out]; omega)
      have hmx := HLL.out (Ls.getD i []) (by rw [List.getD_eq_getElem?_getD, List.getElem?_eq_getElem (by rw [HN.out]; omega)]; simp)
      obtain ⟨L, hL⟩ : ∃ P, P = Ls.getD i [] := ⟨_, rfl⟩
      have hcut := HGD.out i hlt
      rw [← hL] at hcell hints hlc hcut hmx
      obtain ⟨l, hl⟩ : ∃ p, p = L.length := ⟨_, rfl⟩
      rw [← hl] at hcell hlc hmx
      have g1 := (hbw.cell (p := ⟨b, off + i, none⟩) hbl).trans hcell
      have HIN := Lib.hid (ints_take hints 1024)
      have HCU := Lib.hid hcut
      have HLE := Lib.hid hl
      have HNC := Lib.hid hnc
      have hbl2 : b < wy.heap.size := by omega
      clear hrow hcell hints hL hl hnc hcut hbw hx hr HRW
      have HAP := Lib.hid (show (Value.slice Ao i co).ownBlock ≠ some b from fun e => by have := (HX.out.lt b e).1; omega)
      have k3 : i + 1 ≤ maxLen := by unfold maxLen; omega
      have k4 : (i + 1) * 24 ≤ 140737488355328 := by omega
      by_cases hm : ¬ 1024 < l
      · have hm1 : ¬ (1024 : Int) < (l : Int) := by omega
        have hl0 : (0 : Int) ≤ (l : Int) := by omega
        have hlci : (l : Int) ≤ (ci : Int) := by omega
        go_upto_region 5 with fail
        go_region_held3 (fun w' => w'.cell? ⟨b, off + i, none⟩ = some (.slice Ai l ci)) (first | go_keep | (rw [hgrow.cell_far _ (by simp; omega) (Ne.symm HAP.out)]; assumption))
          (first | (refine step_append_lies _ (by rfl) (.tmp 15) (.tmp 27) 35 (by rfl) w.heap.size 22 i0 _ 1 24 Try.underlying35 HI0.out HZ0.out HZ1.out HZ2.out rfl (by omega) (.slice Ao i co) i xs (by rfl) ((HX.out.alloc _).drew) ⟨wy.heap.size, 0, none⟩ 1 1 [.slice Ai l ci] (by rfl) (by rfl) (World.news_of_block (cs := #[.slice Ai l ci]) (t := 22) (fr := (0, 0)) (heap_alloc_new wy _)) (by simp [Value.oneCell']) (by omega) k3 k4 (by simp; omega) (wy.heap.size + 1) (by simp) ?_; intro gg cg w1 hown1 hgrow hat hlt1) | fail)
        go_wp2_with fail
        have hb1 : Below w.heap.size w w1 := (((HBW.out.alloc hzy (.cells #[.slice Ai l ci] 22)).drew).grown hgrow (by simp; omega) (fun q hq => (HX.out.lt q hq).1))
        have HPU := Lib.hid (RowsCut.push HRR.out HX.out hown1 (m := l) (by rw [HCU.out, List.length_take, ← HLE.out]; omega) (by rw [HCU.out]; exact HIN.out) (by omega) HNC.out)
        go_roundg (d - (i + 1))
        case measure => omega
        case rel => exact ⟨i + 1, by omega, rfl, by go_num, HPU.out, hb1⟩
      · have hm1 : (1024 : Int) < (l : Int) := by omega
        have hlci : (1024 : Int) ≤ (ci : Int) := by omega
        go_upto_region 5 with fail
        go_region_held3 (fun w' => w'.cell? ⟨b, off + i, none⟩ = some (.slice Ai l ci)) (first | go_keep | (rw [hgrow.cell_far _ (by simp; omega) (Ne.symm HAP.out)]; assumption))
          (first | (refine step_append_lies _ (by rfl) (.tmp 15) (.tmp 27) 35 (by rfl) w.heap.size 22 i0 _ 1 24 Try.underlying35 HI0.out HZ0.out HZ1.out HZ2.out rfl (by omega) (.slice Ao i co) i xs (by rfl) ((HX.out.alloc _).drew) ⟨wy.heap.size, 0, none⟩ 1 1 [.slice Ai 1024 ci] (by rfl) (by rfl) (World.news_of_block (cs := #[.slice Ai 1024 ci]) (t := 22) (fr := (0, 0)) (heap_alloc_new wy _)) (by simp [Value.oneCell']) (by omega) k3 k4 (by simp; omega) (wy.heap.size + 1) (by simp) ?_; intro gg cg w1 hown1 hgrow hat hlt1) | fail)
        go_wp2_with fail
        have hb1 : Below w.heap.size w w1 := (((HBW.out.alloc hzy (.cells #[.slice Ai 1024 ci] 22)).drew).grown hgrow (by simp; omega) (fun q hq => (HX.out.lt q hq).1))
        have HPU := Lib.hid (RowsCut.push HRR.out HX.out hown1 (m := 1024) (by rw [HCU.out, List.length_take, ← HLE.out]; omega) (by rw [HCU.out]; exact HIN.out) (by omega) HNC.out)
        go_roundg (d - (i + 1))
        case measure => omega
        case rel => exact ⟨i + 1, by omega, rfl, by go_num, HPU.out, hb1⟩
    · obtain rfl : i = d := by omega
      by_cases hin : i < n
      · have hii : (i : Int) < (n : Int) := by omega
        have hi60 : ¬ (i : Int) < 60 := by have := HDL.out; omega
        clear hx hr hbw
        go_wp2_with fail
        go_ret
        exact ⟨Ao, co, by rw [HD.out]; rfl, HRW.out.done HD.out.symm HBW.out, HBW.out, by rw [HD.out]; exact owns_cap HX.out⟩
      · have hii : ¬ (i : Int) < (n : Int) := by omega
        clear hx hr hbw
        go_wp2_with fail
        go_ret
        exact ⟨Ao, co, by rw [HD.out]; rfl, HRW.out.done HD.out.symm HBW.out, HBW.out, by rw [HD.out]; exact owns_cap HX.out⟩
end Go.Proofs.Ytjpbmapnagkonaa
