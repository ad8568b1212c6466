/-
  What is proved here: lists of points that are held against each other, copied, lent, looked at again, written over (package outstationkit). Conditions: none beyond each theorem's own.
-/
import Derived.Test.YtjidfcogcgaclaaBandStep
import Derived.Test.YtjidfcogcgaclaaOwn
import Derived.Laws.MakeOwn
namespace Go.Proofs.Ytjidfcogcgaclaa
open Go.RowKit Go.Deep

theorem pointT : Try.prog.underlying 27 = some (.struct (Try.prog.fieldsOf 27)) := by kernel_rfl
theorem pointH : Try.prog.stoodInHeld 27 = false := by kernel_rfl
def eqp (a b a' b' : Int) : Bool := decide (a = a' ∧ b = b')
theorem eqp_self (a b : Int) : eqp a b a b = true := by simp [eqp]
instance : DecidableEq Point := fun x y => match x, y with
  | ⟨a, b⟩, ⟨a', b'⟩ => if h : a = a' ∧ b = b' then .isTrue (by rw [h.1, h.2]) else .isFalse (fun e => h (by injection e with e1 e2; exact ⟨e1, e2⟩))
theorem eqp_iff (x y : Point) : eqp x.v x.t y.v y.t = decide (x = y) := by
  unfold eqp
  rw [decide_eq_decide]
  obtain ⟨a, b⟩ := x
  obtain ⟨a', b'⟩ := y
  simp
theorem eq_point (a b a' b' : Int) (w : World) : (binOp .eql 27 (.agg #[.int .i64 a, .int .i64 b]) (.agg #[.int .i64 a', .int .i64 b'])).run Try.prog w = .ok (.bool (eqp a b a' b')) w := by
  rw [run_eql_struct, run_equalIn_agg _ _ _ _ _ pointT pointH]
  simp [go_sem]
  by_cases h1 : a = a' <;> by_cases h2 : b = b' <;> simp [eqp, h1, h2]
theorem ne_point (a b a' b' : Int) (w : World) : (binOp .neq 27 (.agg #[.int .i64 a, .int .i64 b]) (.agg #[.int .i64 a', .int .i64 b'])).run Try.prog w = .ok (.bool (!eqp a b a' b')) w := by
  rw [run_neq_struct, run_equalIn_agg _ _ _ _ _ pointT pointH]
  simp [go_sem]
  by_cases h1 : a = a' <;> by_cases h2 : b = b' <;> simp [eqp, h1, h2]
attribute [local go_sem high] eq_point ne_point eqp_self

abbrev p0 : Point := ⟨0, 0⟩
def PointsAt (w : World) (A : Option Addr) (L : List Point) : Prop :=
  0 < L.length → ∃ b off, A = some ⟨b, off, none⟩ ∧ b < w.heap.size ∧ ∀ i, i < L.length →
    w.cell? ⟨b, off + i * 2, none⟩ = some (.int .i64 (L.getD i p0).v) ∧ w.cell? ⟨b, off + i * 2 + 1, none⟩ = some (.int .i64 (L.getD i p0).t)
theorem PointsAt.below {w w' : World} {B : Nat} {A : Option Addr} {L : List Point} (h : PointsAt w A L) (hb : Below B w w') (hB : w.heap.size ≤ B) : PointsAt w' A L := by
  intro hp
  obtain ⟨b, off, e, hlt, hc⟩ := h hp
  refine ⟨b, off, e, Nat.lt_of_lt_of_le hlt hb.size, fun i hi => ?_⟩
  obtain ⟨c0, c1⟩ := hc i hi
  exact ⟨(hb.cell (p := ⟨b, off + i * 2, none⟩) (Nat.lt_of_lt_of_le hlt hB)).trans c0, (hb.cell (p := ⟨b, off + i * 2 + 1, none⟩) (Nat.lt_of_lt_of_le hlt hB)).trans c1⟩

/-- a point's cells. -/
def pcells (p : Point) : List Value := [.int .i64 p.v, .int .i64 p.t]
theorem pcells_len (L : List Point) : (L.flatMap pcells).length = L.length * 2 := by
  induction L with
  | nil => rfl
  | cons a l ih => rw [List.flatMap_cons, List.length_append, ih]; simp [pcells]; omega
theorem pcells_at (L : List Point) : ∀ (i : Nat), i < L.length → (L.flatMap pcells)[i * 2]? = some (.int .i64 (L.getD i p0).v) ∧ (L.flatMap pcells)[i * 2 + 1]? = some (.int .i64 (L.getD i p0).t) := by
  induction L with
  | nil => intro i hi; simp at hi
  | cons a l ih =>
    intro i hi
    rw [List.flatMap_cons]
    cases i with
    | zero => simp [pcells]
    | succ i =>
      obtain ⟨h1, h2⟩ := ih i (by simpa using hi)
      have e : (i + 1) * 2 = 2 + i * 2 := by omega
      have hl : (pcells a).length = 2 := rfl
      rw [e]
      refine ⟨?_, ?_⟩
      · rw [List.getElem?_append_right (by rw [hl]; omega), hl, show 2 + i * 2 - 2 = i * 2 by omega]
        simpa using h1
      · rw [List.getElem?_append_right (by rw [hl]; omega), hl, show 2 + i * 2 + 1 - 2 = i * 2 + 1 by omega]
        simpa using h2

/-- a whole number's cell. -/
def IsInt (u : Value) : Prop := ∃ n, u = .int .i64 n
theorem pcells_int (L : List Point) : ∀ u ∈ L.flatMap pcells, IsInt u := by
  intro u hu
  obtain ⟨p, _, hp⟩ := List.mem_flatMap.1 hu
  simp [pcells] at hp
  rcases hp with h | h
  · exact ⟨_, h⟩
  · exact ⟨_, h⟩

/-- a row of points in a block, all of whose cells are whole numbers: L, then room, m in all. -/
def PRow (w : World) (g m : Nat) (L : List Point) : Prop :=
  ∃ cs, Blk w g 27 cs ∧ cs.size = m * 2 ∧ L.length ≤ m ∧ cs.toList.take (L.length * 2) = L.flatMap pcells ∧ ∀ u ∈ cs.toList, IsInt u
section
variable {w w' : World} {g m : Nat} {L : List Point}
theorem PRow.lt (h : PRow w g m L) : g < w.heap.size := by obtain ⟨cs, hb, _⟩ := h; exact hb.lt
theorem PRow.le (h : PRow w g m L) : L.length ≤ m := by obtain ⟨cs, _, _, hl, _⟩ := h; exact hl
theorem PRow.frozen (h : PRow w g m L) (o : Nat) : w.frozen? ⟨g, o, none⟩ = false := by obtain ⟨cs, hb, _⟩ := h; exact hb.frozen o
theorem PRow.of_block (h : PRow w g m L) (e : w'.heap[g]? = w.heap[g]?) : PRow w' g m L := by
  obtain ⟨cs, hb, r⟩ := h
  exact ⟨cs, e.trans hb, r⟩
theorem PRow.below {B : Nat} (h : PRow w g m L) (hb : Below B w w') (hg : g < B) : PRow w' g m L := h.of_block (hb.block g hg)
theorem PRow.cell (h : PRow w g m L) {i : Nat} (hi : i < L.length) : w.cell? ⟨g, i * 2, none⟩ = some (.int .i64 (L.getD i p0).v) ∧ w.cell? ⟨g, i * 2 + 1, none⟩ = some (.int .i64 (L.getD i p0).t) := by
  obtain ⟨cs, hb, hs, hl, ht, _⟩ := h
  obtain ⟨c0, c1⟩ := pcells_at L i hi
  rw [← ht] at c0 c1
  simp only [List.getElem?_take] at c0 c1
  rw [if_pos (by omega), Array.getElem?_toList] at c0 c1
  exact ⟨(hb.cell _).trans c0, (hb.cell _).trans c1⟩
theorem PRow.any (h : PRow w g m L) {j : Nat} (hj : j < m * 2) : ∃ n, w.cell? ⟨g, j, none⟩ = some (.int .i64 n) := by
  obtain ⟨cs, hb, hs, hl, ht, hu⟩ := h
  obtain ⟨n, e⟩ := hu cs[j] (by simp)
  exact ⟨n, by rw [hb.cell, Array.getElem?_eq_getElem (by omega), e]⟩
theorem PRow.at_ (h : PRow w g m L) : PointsAt w (some ⟨g, 0, none⟩) L := by
  intro _
  refine ⟨g, 0, rfl, h.lt, fun i hi => ?_⟩
  have := h.cell (i := i) hi
  simpa using this
/-- the row without its beginning's meaning. -/
theorem PRow.bare (h : PRow w g m L) : PRow w g m [] := by
  obtain ⟨cs, hb, hs, hl, ht, hu⟩ := h
  exact ⟨cs, hb, hs, by simp, by simp, hu⟩
theorem PRow.set_ (h : PRow w g m []) (j : Nat) (n : Int) : PRow (w.setCell ⟨g, j, none⟩ (.int .i64 n)) g m [] := by
  obtain ⟨cs, hb, hs, hl, ht, hu⟩ := h
  refine ⟨_, hb.set_ j _, by simpa using hs, by simp, by simp, fun u hm => ?_⟩
  rw [Array.toList_setIfInBounds] at hm
  rcases List.mem_or_eq_of_mem_set hm with hm | hm
  · exact hu u hm
  · exact ⟨n, hm⟩
end
theorem row_of_own {w : World} {base : Nat} {v : Value} {L : List Point} (h : OwnG IsInt w base 27 2 v L.length (L.flatMap pcells)) :
    (v = .slice none 0 0 ∧ L = []) ∨ ∃ g cap, v = .slice (some ⟨g, 0, none⟩) L.length cap ∧ base ≤ g ∧ cap ≤ maxLen ∧ PRow w g cap L := by
  rcases h.1.2 with ⟨hv, h0⟩ | ⟨g, cap, cur, hv, hb, hh, hn, hm, hs, ht⟩
  · exact .inl ⟨hv, List.eq_nil_of_length_eq_zero h0⟩
  · exact .inr ⟨g, cap, hv, hb, hm, cur, hh, hs, hn, ht, h.2 g cap cur hv hh⟩

theorem ext_getD {L M : List Point} (hl : L.length = M.length) (h : ∀ j, j < L.length → L.getD j p0 = M.getD j p0) : L = M := by
  apply List.ext_getElem hl
  intro i h1 h2
  have := h i h1
  simpa [h1, h2] using this

theorem same_points (A B : Option Addr) (ca cb : Nat) (L M : List Point) (w : World) (hA : PointsAt w A L) (hB : PointsAt w B M) (hlen : L.length ≤ 140737488351232) :
    Calls Try.prog 15 #[.slice A L.length ca, .slice B M.length cb] w fun e w' => e = .returned (.bool (decide (L = M))) ∧ Below w.heap.size w w' := by
  by_cases hl : L.length = M.length
  · have HA := Lib.hid hA
    have HB := Lib.hid hB
    clear hA hB
    rw [← hl]
    have HL := Lib.hid hl
    clear hl
    go_enter Try.func15, Try.ntmps15
    go_wp2
    go_loopg [5] L.length (fun g i wr => ∃ k : Nat, k ≤ L.length ∧ g = L.length - k ∧ i = .int .i64 k ∧ (∀ j, j < k → L.getD j p0 = M.getD j p0) ∧ Below w.heap.size w wr)
    case atStart => exact ⟨0, Nat.zero_le _, rfl, rfl, fun j hj => absurd hj (by omega), Below.refl _ _⟩
    case round =>
      obtain ⟨k, hk, rfl, rfl, hsame, hbw⟩ := hrel
      have HSM := Lib.hid hsame
      clear hsame
      by_cases hlt : k < L.length
      · obtain ⟨b, off, rfl, hb, hS⟩ := HA.out (by omega)
        have hlM : L.length = M.length := HL.out
        obtain ⟨b', off', rfl, hb', hS'⟩ := HB.out (by omega)
        obtain ⟨c0, c1⟩ := hS k hlt
        obtain ⟨d0, d1⟩ := hS' k (by omega)
        have h0 := (hbw.cell (p := ⟨b, off + k * 2, none⟩) hb).trans c0
        have h1 := (hbw.cell (p := ⟨b, off + k * 2 + 1, none⟩) hb).trans c1
        have e0 := (hbw.cell (p := ⟨b', off' + k * 2, none⟩) hb').trans d0
        have e1 := (hbw.cell (p := ⟨b', off' + k * 2 + 1, none⟩) hb').trans d1
        clear c0 c1 d0 d1 hS hS' hlM
        obtain ⟨x, hx⟩ : ∃ x, x = L.getD k p0 := ⟨_, rfl⟩
        rw [← hx] at h0 h1
        obtain ⟨y, hy⟩ : ∃ y, y = M.getD k p0 := ⟨_, rfl⟩
        rw [← hy] at e0 e1
        have HX := Lib.hid hx
        have HY := Lib.hid hy
        clear hx hy
        have hki : (k : Int) < (L.length : Int) := by omega
        have hk0 : (0 : Int) ≤ (k : Int) := by omega
        by_cases hxy : x = y
        · subst hxy
          go_wp2
          go_quiet (fail)
          go_wp2
          go_roundg (L.length - (k + 1))
          case measure => omega
          case rel =>
            refine ⟨k + 1, by omega, rfl, by go_num, fun j hj => ?_, by (repeat (first | (with_reducible assumption) | (with_reducible exact Below.refl _ _) | ((with_reducible refine Below.setCell ?_ ?_ _); rotate_left; · (first | omega | (simp; done) | (simp; omega) | (simp at *; omega))) | ((with_reducible refine Below.alloc ?_ ?_ _); rotate_left; · (first | omega | (simp; done) | (simp; omega) | (simp at *; omega))) | (with_reducible refine Below.drew ?_) | (with_reducible refine below_drewN ?_ _) | ((refine Below.trans ?_ (Below.mono (by with_reducible assumption) ?_)); rotate_left; · (first | omega | (simp; done) | (simp; omega) | (simp at *; omega)))))⟩
            by_cases e : j = k
            · rw [e, ← HX.out, ← HY.out]
            · exact HSM.out j (by omega)
        · have hne : eqp x.v x.t y.v y.t = false := by rw [eqp_iff]; exact decide_eq_false hxy
          have HXY := Lib.hid hxy
          clear hxy
          go_wp2
          go_quiet (fail)
          go_wp2
          go_ret
          exact ⟨ret_bool (decide_eq_false (fun e => HXY.out (by rw [HX.out, HY.out, e]))).symm, by (repeat (first | (with_reducible assumption) | (with_reducible exact Below.refl _ _) | ((with_reducible refine Below.setCell ?_ ?_ _); rotate_left; · (first | omega | (simp; done) | (simp; omega) | (simp at *; omega))) | ((with_reducible refine Below.alloc ?_ ?_ _); rotate_left; · (first | omega | (simp; done) | (simp; omega) | (simp at *; omega))) | (with_reducible refine Below.drew ?_) | (with_reducible refine below_drewN ?_ _) | ((refine Below.trans ?_ (Below.mono (by with_reducible assumption) ?_)); rotate_left; · (first | omega | (simp; done) | (simp; omega) | (simp at *; omega)))))⟩
      · obtain rfl : k = L.length := by omega
        have hki : ¬ (L.length : Int) < (L.length : Int) := by omega
        go_wp2
        go_ret
        exact ⟨ret_bool (decide_eq_true (ext_getD HL.out HSM.out)).symm, hbw⟩
  · have hne : ((L.length : Int) == (M.length : Int)) = false := by rw [beq_eq_false_iff_ne]; omega
    have hne' : ((L.length : Int) != (M.length : Int)) = true := by rw [bne_iff_ne]; omega
    have HL := Lib.hid hl
    clear hl hA hB
    go_enter Try.func15, Try.ntmps15
    go_wp2
    go_ret
    exact ⟨ret_bool (decide_eq_false (fun e => HL.out (by rw [e]))).symm, Below.refl _ _⟩

theorem infoP : (Try.prog.info? 27).map (fun i => (i.zero, i.size, i.bytes)) = some (some (.agg #[.int .i64 0, .int .i64 0]), 2, 16) := by kernel_rfl

/-- a new list of the call's own. -/
def NewList (w : World) (L : List Point) (e : Ending) (w' : World) : Prop :=
  ∃ v, e = .returned v ∧ OwnG IsInt w' w.heap.size 27 2 v L.length (L.flatMap pcells) ∧ Below w.heap.size w w'

set_option maxHeartbeats 1000000 in
theorem copy_points (A : Option Addr) (ca : Nat) (L : List Point) (w : World) (hA : PointsAt w A L) (hlen : L.length * 16 ≤ 140737488351232) :
    Calls Try.prog 22 #[.slice A L.length ca] w (NewList w L) := by
  obtain ⟨i0, hi0, hz0, hz1, hz2⟩ := info_parts infoP
  have HA := Lib.hid hA
  clear hA
  go_enter Try.func22, Try.ntmps22
  go_wp2
  go_loopg [3, 4] L.length (fun g ov i wr => ∃ k : Nat, k ≤ L.length ∧ g = L.length - k ∧ i = .int .i64 k ∧ OwnG IsInt wr w.heap.size 27 2 ov (L.take k).length ((L.take k).flatMap pcells) ∧ Below w.heap.size w wr)
  case atStart => exact ⟨0, Nat.zero_le _, rfl, rfl, by simpa using OwnG.nil_ w w.heap.size _ 2, Below.refl _ _⟩
  case round =>
    obtain ⟨k, hk, rfl, rfl, hown, hbw⟩ := hrel
    by_cases hlt : k < L.length
    · obtain ⟨b, off, rfl, hb, hS⟩ := HA.out (by omega)
      obtain ⟨c0, c1⟩ := hS k hlt
      have h0 := (hbw.cell (p := ⟨b, off + k * 2, none⟩) hb).trans c0
      have h1 := (hbw.cell (p := ⟨b, off + k * 2 + 1, none⟩) hb).trans c1
      have hst : L.take (k + 1) = L.take k ++ [L.getD k p0] := by
        rw [List.take_succ_eq_append_getElem hlt, List.getD_eq_getElem?_getD, List.getElem?_eq_getElem hlt]; rfl
      obtain ⟨x, hx⟩ : ∃ x, x = L.getD k p0 := ⟨_, rfl⟩
      rw [← hx] at h0 h1 hst
      have hgx := pcells_int (L.take k)
      have hol : (L.take k).length = k := by rw [List.length_take]; omega
      have HST := Lib.hid hst
      have HOL := Lib.hid hol
      clear c0 c1 hS hx hst
      obtain ⟨O, hO⟩ : ∃ O, O = L.take k := ⟨_, rfl⟩
      rw [← hO] at hown HST HOL hgx hol
      clear hO
      have hki : (k : Int) < (L.length : Int) := by omega
      have hk0 : (0 : Int) ≤ (k : Int) := by omega
      have hws := hbw.size
      have hok : O.length ≤ k := by omega
      clear hol
      have k3 : O.length + 1 ≤ maxLen := by unfold maxLen; omega
      have k4 : (O.length + 1) * 16 ≤ 140737488355328 := by omega
      have k5 : w.heap.size ≤ (wr.alloc (.cells #[.int .i64 x.v, .int .i64 x.t] 27)).heap.size := by simp; omega
      have k2 : ∀ u ∈ [Value.int .i64 x.v, .int .i64 x.t], u.oneCell' = true := by simp [Value.oneCell']
      have k6 : ∀ u ∈ [Value.int .i64 x.v, .int .i64 x.t], IsInt u := by
        intro u hu
        simp at hu
        rcases hu with h | h
        · exact ⟨_, h⟩
        · exact ⟨_, h⟩
      have k7 : ∀ u ∈ (Value.agg #[.int .i64 0, .int .i64 0]).cells.toList, IsInt u := by
        intro u hu
        simp [Value.cells] at hu
        exact ⟨_, hu⟩
      go_wp2_with (at_builtin; refine wpList_append_G _ rfl (.tmp 11) (.tmp 16) 33 rfl IsInt w.heap.size 27 i0 _ 2 16 Try.underlying33 hi0 hz0 hz1 hz2 rfl (by omega) _ O.length (O.flatMap pcells) rfl (hown.alloc _) ⟨wr.heap.size, 0, none⟩ 1 1 [.int .i64 x.v, .int .i64 x.t] rfl rfl (World.news_of_block (cs := #[.int .i64 x.v, .int .i64 x.t]) (t := 27) (fr := (0, 0)) (heap_alloc_new wr _)) k2 k3 k4 k5 k7 k6 hgx ?_; intro v' w3 hown3 hgrow; have hb3 : Below w.heap.size w w3 := (hbw.alloc (by omega) _).grown hgrow k5 (fun q hq => (hown.1.lt q hq).1))
      go_roundg (L.length - (k + 1))
      case measure => omega
      case rel =>
        refine ⟨k + 1, by omega, rfl, by go_num, ?_, hb3⟩
        rw [HST.out, List.length_append, List.flatMap_append]; simpa [pcells] using hown3
    · obtain rfl : k = L.length := by omega
      have hki : ¬ (L.length : Int) < (L.length : Int) := by omega
      rw [List.take_length] at hown
      go_wp2
      go_ret
      exact ⟨_, rfl, hown, hbw⟩
end Go.Proofs.Ytjidfcogcgaclaa
