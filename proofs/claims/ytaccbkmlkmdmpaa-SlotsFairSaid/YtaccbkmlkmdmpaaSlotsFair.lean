/-
  What is proved here: the law SlotsFair returns true for every list of slots and every time. Conditions: none.
-/
import Derived.Test.YtaccbkmlkmdmpaaSlotFairLaws
import Derived.Test.YtaccbkmlkmdmpaaSlotKnown
import Derived.Test.YtaccbkmlkmdmpaaSlotWake
import Derived.Test.YtaccbkmlkmdmpaaSlotKit
import Derived.Test.YtaccbkmlkmdmpaaSlotOpen
import Derived.Deep.OwnRows
import Derived.OwnWalk
import Derived.Deep.AppendLies
namespace Go.Proofs.Ytaccbkmlkmdmpaa
namespace SlotsFair
open Go.ChangeShapes Go.WideShapes Go.ChangeAt Go.RowKit Go.Deep
attribute [local go_sem high] eq_slot ne_slot eq3_self

/-- a slot's cells. -/
def scells (s : Slot) : List Value := [.int .i64 s.e, .int .i64 s.n, .int .i64 s.f]
theorem scells_len (L : List Slot) : (L.flatMap scells).length = L.length * 3 := by
  induction L with
  | nil => rfl
  | cons a l ih => rw [List.flatMap_cons, List.length_append, ih]; simp [scells]; omega
theorem scells_at (L : List Slot) : ∀ (i : Nat), i < L.length → (L.flatMap scells)[i * 3]? = some (.int .i64 (L.getD i z0).e) ∧ (L.flatMap scells)[i * 3 + 1]? = some (.int .i64 (L.getD i z0).n) ∧ (L.flatMap scells)[i * 3 + 2]? = some (.int .i64 (L.getD i z0).f) := by
  induction L with
  | nil => intro i hi; simp at hi
  | cons a l ih =>
    intro i hi
    rw [List.flatMap_cons]
    cases i with
    | zero => simp [scells]
    | succ i =>
      obtain ⟨h1, h2, h3⟩ := ih i (by simpa using hi)
      have e : (i + 1) * 3 = 3 + i * 3 := by omega
      have hl : (scells a).length = 3 := rfl
      rw [e]
      refine ⟨?_, ?_, ?_⟩
      · rw [List.getElem?_append_right (by rw [hl]; omega), hl, show 3 + i * 3 - 3 = i * 3 by omega]
        simpa using h1
      · rw [List.getElem?_append_right (by rw [hl]; omega), hl, show 3 + i * 3 + 1 - 3 = i * 3 + 1 by omega]
        simpa using h2
      · rw [List.getElem?_append_right (by rw [hl]; omega), hl, show 3 + i * 3 + 2 - 3 = i * 3 + 2 by omega]
        simpa using h3

/-- a row of slots in a block, some room behind it. -/
def SlotRow (w : World) (g m : Nat) (F : Nat → Slot) : Prop :=
  ∃ cs, Blk w g 29 cs ∧ m * 3 ≤ cs.size ∧ ∀ i, i < m → cs[i * 3]? = some (.int .i64 (F i).e) ∧ cs[i * 3 + 1]? = some (.int .i64 (F i).n) ∧ cs[i * 3 + 2]? = some (.int .i64 (F i).f)
section
variable {w w' : World} {g m : Nat} {F : Nat → Slot}
theorem SlotRow.cells (h : SlotRow w g m F) {i : Nat} (hi : i < m) : w.cell? ⟨g, i * 3, none⟩ = some (.int .i64 (F i).e) ∧ w.cell? ⟨g, i * 3 + 1, none⟩ = some (.int .i64 (F i).n) ∧ w.cell? ⟨g, i * 3 + 2, none⟩ = some (.int .i64 (F i).f) := by
  obtain ⟨cs, hb, _, hc⟩ := h
  obtain ⟨c0, c1, c2⟩ := hc i hi
  exact ⟨(hb.cell _).trans c0, (hb.cell _).trans c1, (hb.cell _).trans c2⟩
theorem SlotRow.frozen (h : SlotRow w g m F) (o : Nat) : w.frozen? ⟨g, o, none⟩ = false := by
  obtain ⟨cs, hb, _, _⟩ := h
  exact hb.frozen o
theorem SlotRow.lt (h : SlotRow w g m F) : g < w.heap.size := by
  obtain ⟨cs, hb, _, _⟩ := h
  exact hb.lt
theorem SlotRow.below {B : Nat} (h : SlotRow w g m F) (hb : Below B w w') (hg : g < B) : SlotRow w' g m F := by
  obtain ⟨cs, h1, h2, h3⟩ := h
  exact ⟨cs, h1.below hb hg, h2, h3⟩
theorem SlotRow.alloc (h : SlotRow w g m F) (o : Obj) : SlotRow (w.alloc o) g m F := by
  obtain ⟨cs, h1, h2, h3⟩ := h
  exact ⟨cs, h1.alloc o, h2, h3⟩
theorem SlotRow.far (h : SlotRow w g m F) {p : Addr} (hp : g ≠ p.block) (u : Value) : SlotRow (w.setCell p u) g m F := by
  obtain ⟨cs, h1, h2, h3⟩ := h
  exact ⟨cs, h1.far hp u, h2, h3⟩
theorem SlotRow.store (h : SlotRow w g m F) {i : Nat} (hi : i < m) (s : Slot) :
    SlotRow (((w.setCell ⟨g, i * 3, none⟩ (.int .i64 s.e)).setCell ⟨g, i * 3 + 1, none⟩ (.int .i64 s.n)).setCell ⟨g, i * 3 + 2, none⟩ (.int .i64 s.f)) g m (fun j => if j = i then s else F j) := by
  obtain ⟨cs, h1, h2, h3⟩ := h
  refine ⟨_, ((h1.set_ _ _).set_ _ _).set_ _ _, by simpa using h2, fun j hj => ?_⟩
  obtain ⟨c0, c1, c2⟩ := h3 j hj
  by_cases e : j = i
  · subst e
    simp only [if_true]
    refine ⟨?_, ?_, ?_⟩
    · rw [Array.getElem?_setIfInBounds_ne (by omega), Array.getElem?_setIfInBounds_ne (by omega), Array.getElem?_setIfInBounds_self_of_lt (by omega)]
    · rw [Array.getElem?_setIfInBounds_ne (by omega), Array.getElem?_setIfInBounds_self_of_lt (by simp; omega)]
    · rw [Array.getElem?_setIfInBounds_self_of_lt (by simp; omega)]
  · simp only [if_neg e]
    refine ⟨?_, ?_, ?_⟩
    · rw [Array.getElem?_setIfInBounds_ne (by omega), Array.getElem?_setIfInBounds_ne (by omega), Array.getElem?_setIfInBounds_ne (by omega)]; exact c0
    · rw [Array.getElem?_setIfInBounds_ne (by omega), Array.getElem?_setIfInBounds_ne (by omega), Array.getElem?_setIfInBounds_ne (by omega)]; exact c1
    · rw [Array.getElem?_setIfInBounds_ne (by omega), Array.getElem?_setIfInBounds_ne (by omega), Array.getElem?_setIfInBounds_ne (by omega)]; exact c2
theorem SlotRow.congr {G : Nat → Slot} (h : SlotRow w g m F) (e : ∀ i, i < m → F i = G i) : SlotRow w g m G := by
  obtain ⟨cs, h1, h2, h3⟩ := h
  exact ⟨cs, h1, h2, fun i hi => by rw [← e i hi]; exact h3 i hi⟩
theorem SlotRow.at_ {L : List Slot} (h : SlotRow w g L.length (fun i => L.getD i z0)) : SlotsAt w (some ⟨g, 0, none⟩) L := by
  intro _
  refine ⟨g, 0, rfl, h.lt, fun i hi => ?_⟩
  have := h.cells (i := i) hi
  simpa using this
end

theorem own_below {w w' : World} {base : Nat} {e : TypeId} {size n : Nat} {v : Value} {xs : List Value} (h : w.ownsRow base e size v n xs) (hb : Below w.heap.size w w') : w'.ownsRow base e size v n xs :=
  h.kept (row := none) ⟨hb.os, hb.tape, hb.output, hb.size, fun i hi _ => hb.block i hi⟩ (by cases v.ownBlock <;> simp)

theorem slice_of_own {w : World} {base : Nat} {e : TypeId} {size n : Nat} {v : Value} {xs : List Value} (h : w.ownsRow base e size v n xs) : ∃ A c, v = .slice A n c := by
  rcases h.2 with ⟨hv, h0⟩ | ⟨g, cap, cur, hv, _⟩
  · subst h0; exact ⟨none, 0, hv⟩
  · exact ⟨_, cap, hv⟩

theorem row_of_own {w : World} {base : Nat} {v : Value} {L : List Slot} (h : w.ownsRow base 29 3 v L.length (L.flatMap scells)) (hp : 0 < L.length) :
    ∃ g cap, v = .slice (some ⟨g, 0, none⟩) L.length cap ∧ base ≤ g ∧ L.length ≤ cap ∧ cap ≤ maxLen ∧ SlotRow w g L.length (fun i => L.getD i z0) := by
  rcases h.2 with ⟨_, h0⟩ | ⟨g, cap, cur, hv, hb, hh, hn, hm, hs, ht⟩
  · omega
  · refine ⟨g, cap, hv, hb, hn, hm, cur, hh, by rw [hs]; exact Nat.mul_le_mul_right _ hn, fun i hi => ?_⟩
    obtain ⟨c0, c1, c2⟩ := scells_at L i hi
    rw [← ht] at c0 c1 c2
    simp only [List.getElem?_take] at c0 c1 c2
    rw [if_pos (by omega), Array.getElem?_toList] at c0 c1 c2
    exact ⟨c0, c1, c2⟩

set_option maxRecDepth 100000 in
set_option maxHeartbeats 2000000 in
theorem walk_no (A : Option Addr) (cap : Nat) (L : List Slot) (now : Int) (w : World) (h : now < 0 ∨ 1099511627776 < now ∨ 200 < L.length) :
    Calls Try.prog 7 #[.slice A L.length cap, .int .i64 now] w fun e w' => e = .returned (.bool true) ∧ Below w.heap.size w w' := by
  have h' : now < 0 ∨ 1099511627776 < now ∨ (200 : Int) < (L.length : Int) := by omega
  clear h
  by_cases c1 : now < 0
  · go_enter Try.func7, Try.ntmps7
    clear h'
    go_wp2_with fail
    refine (known_any _).mono ?_
    rintro e w2 ⟨rfl, hb2⟩
    go_wp2_with fail
    go_ret
    exact ⟨rfl, by (repeat (first | (with_reducible assumption) | (with_reducible exact Below.refl _ _) | ((with_reducible refine Below.setCell ?_ ?_ _); rotate_left; · (first | omega | (simp; done) | (simp; omega) | (simp at *; omega))) | ((with_reducible refine Below.alloc ?_ ?_ _); rotate_left; · (first | omega | (simp; done) | (simp; omega) | (simp at *; omega))) | (with_reducible refine Below.drew ?_) | (with_reducible refine below_drewN ?_ _) | ((refine Below.trans ?_ (Below.mono (by with_reducible assumption) ?_)); rotate_left; · (first | omega | (simp; done) | (simp; omega) | (simp at *; omega)))))⟩
  · by_cases c2 : 1099511627776 < now
    · clear h'
      go_enter Try.func7, Try.ntmps7
      go_wp2_with fail
      refine (known_any _).mono ?_
      rintro e w2 ⟨rfl, hb2⟩
      go_wp2_with fail
      go_ret
      exact ⟨rfl, by (repeat (first | (with_reducible assumption) | (with_reducible exact Below.refl _ _) | ((with_reducible refine Below.setCell ?_ ?_ _); rotate_left; · (first | omega | (simp; done) | (simp; omega) | (simp at *; omega))) | ((with_reducible refine Below.alloc ?_ ?_ _); rotate_left; · (first | omega | (simp; done) | (simp; omega) | (simp at *; omega))) | (with_reducible refine Below.drew ?_) | (with_reducible refine below_drewN ?_ _) | ((refine Below.trans ?_ (Below.mono (by with_reducible assumption) ?_)); rotate_left; · (first | omega | (simp; done) | (simp; omega) | (simp at *; omega)))))⟩
    · have c3 : (200 : Int) < (L.length : Int) := by omega
      clear h'
      go_enter Try.func7, Try.ntmps7
      go_wp2_with fail
      refine (known_any _).mono ?_
      rintro e w2 ⟨rfl, hb2⟩
      go_wp2_with fail
      go_ret
      exact ⟨rfl, by (repeat (first | (with_reducible assumption) | (with_reducible exact Below.refl _ _) | ((with_reducible refine Below.setCell ?_ ?_ _); rotate_left; · (first | omega | (simp; done) | (simp; omega) | (simp at *; omega))) | ((with_reducible refine Below.alloc ?_ ?_ _); rotate_left; · (first | omega | (simp; done) | (simp; omega) | (simp at *; omega))) | (with_reducible refine Below.drew ?_) | (with_reducible refine below_drewN ?_ _) | ((refine Below.trans ?_ (Below.mono (by with_reducible assumption) ?_)); rotate_left; · (first | omega | (simp; done) | (simp; omega) | (simp at *; omega)))))⟩

theorem due_n (A : Option Addr) (n cap : Nat) (L : List Slot) (now r : Int) (w : World) (hn : L.length = n) (hA : SlotsAt w A L) (hlen : n ≤ 200) (hr : dueTo L now n = r) :
    Calls Try.prog 10 #[.slice A n cap, .int .i64 now] w fun e w' => e = .returned (.int .i64 r) ∧ Below w.heap.size w w' := by
  subst hn hr
  exact due_any A cap L now w hA (by omega)
theorem wake_n (A : Option Addr) (n cap : Nat) (L : List Slot) (r : Int) (w : World) (hn : L.length = n) (hA : SlotsAt w A L) (hcap : n ≤ cap) (hlen : n ≤ 200) (hr : wakeTo L n = r) :
    Calls Try.prog 12 #[.slice A n cap] w fun e w' => e = .returned (.int .i64 r) ∧ Below w.heap.size w w' := by
  subst hn hr
  exact wake_any A cap L w hA hcap (by omega)
theorem done_well_is (s : Slot) (now : Int) (h : s.Ok) (ht : TimeOk now) : s.done now true = ⟨s.e, s.n + s.e * (1 + (max 0 (now - s.n)) / s.e), 0⟩ := by simp [Slot.done, h, ht, Slot.well]

/-- those of the first k that may be. -/
def ownTo (L : List Slot) (k : Nat) : List Slot := (L.take k).filter (fun s => decide s.Ok)
theorem own_step (L : List Slot) (k : Nat) (hk : k < L.length) : ownTo L (k + 1) = ownTo L k ++ (if (L.getD k z0).Ok then [L.getD k z0] else []) := by
  unfold ownTo
  rw [List.take_succ_eq_append_getElem hk, List.filter_append]
  have e : L[k] = L.getD k z0 := by rw [List.getD_eq_getElem?_getD, List.getElem?_eq_getElem hk]; rfl
  rw [e]
  congr 1
  by_cases h : (L.getD k z0).Ok
  · rw [if_pos h, List.filter_cons_of_pos (by simpa using h)]; rfl
  · rw [if_neg h, List.filter_cons_of_neg (by simpa using h)]; rfl
theorem own_le (L : List Slot) (k : Nat) : (ownTo L k).length ≤ k := by
  unfold ownTo
  exact Nat.le_trans (List.length_filter_le _ _) (List.length_take_le _ _)
theorem due_step (now : Int) (L M : List Slot) : dueMany now (L ++ M) = dueMany now L + dueMany now M := by
  unfold dueMany; exact List.countP_append
theorem due_le (now : Int) (L : List Slot) : dueMany now L ≤ L.length := List.countP_le_length

theorem getD_set (Q : List Slot) (j : Nat) (hj : j < Q.length) (x : Slot) (i : Nat) : (Q.set j x).getD i z0 = if i = j then x else Q.getD i z0 := by
  rw [List.getD_eq_getElem?_getD, List.getElem?_set]
  by_cases e : j = i
  · subst e; simp [hj]
  · simp [e, show ¬ i = j by omega, List.getD_eq_getElem?_getD]
theorem infoB : (Try.prog.info? 4).map (fun i => (i.zero, i.size, i.bytes)) = some (some (.bool false), 1, 1) := by kernel_rfl

set_option maxRecDepth 100000 in
set_option maxHeartbeats 4000000 in
theorem walk_yes (A : Option Addr) (cap : Nat) (L : List Slot) (now : Int) (w : World) (hA : SlotsAt w A L) (h1 : 0 ≤ now) (h2 : now ≤ 1099511627776) (hl : L.length ≤ 200) :
    Calls Try.prog 7 #[.slice A L.length cap, .int .i64 now] w fun e w' => e = .returned (.bool true) ∧ Below w.heap.size w w' := by
  obtain ⟨i0, hi0, hz0, hz1, hz2⟩ := info_parts info29
  obtain ⟨ib, hib, hzb0, hzb1, hzb2⟩ := info_parts infoB
  have HA := Lib.hid hA
  clear hA
  have d1 : decide (now < 0) = false := decide_eq_false (by omega)
  have d2 : decide (1099511627776 < now) = false := decide_eq_false (by omega)
  have hl' : ¬ (200 : Int) < (L.length : Int) := by omega
  go_enter Try.func7, Try.ntmps7
  go_wp2_with fail
  go_loopg [5, 6, 7] L.length (fun g ov dv i wr => ∃ k : Nat, k ≤ L.length ∧ g = L.length - k ∧ i = .int .i64 k ∧ dv = .int .i64 (dueMany now (ownTo L k)) ∧ wr.ownsRow w.heap.size 29 3 ov (ownTo L k).length ((ownTo L k).flatMap scells) ∧ Below w.heap.size w wr)
  case atStart => exact ⟨0, Nat.zero_le _, rfl, rfl, by simp [ownTo, dueMany], ⟨by simp [ownTo], .inl ⟨rfl, by simp [ownTo]⟩⟩, Below.refl _ _⟩
  case round =>
    obtain ⟨k, hk, rfl, rfl, rfl, hown, hbw⟩ := hrel
    by_cases hlt : k < L.length
    · obtain ⟨b, off, rfl, hb, hS⟩ := HA.out (by omega)
      obtain ⟨c0, c1, c2⟩ := hS k hlt
      have h0 := (hbw.cell (p := ⟨b, off + k * 3, none⟩) hb).trans c0
      have h1' := (hbw.cell (p := ⟨b, off + k * 3 + 1, none⟩) hb).trans c1
      have h2' := (hbw.cell (p := ⟨b, off + k * 3 + 2, none⟩) hb).trans c2
      clear hS
      have hst := own_step L k hlt
      obtain ⟨x, hx⟩ : ∃ x, x = L.getD k z0 := ⟨_, rfl⟩
      rw [← hx] at h0 h1' h2' hst c1
      have HC1 := Lib.hid c1
      clear c0 c1 c2
      have hol := own_le L k
      have hdl := due_le now (ownTo L k)
      have hki : (k : Int) < (L.length : Int) := by omega
      have hk0 : (0 : Int) ≤ (k : Int) := by omega
      have hws := hbw.size
      have HST := Lib.hid hst
      clear hst hx
      obtain ⟨O, hO⟩ : ∃ O, O = ownTo L k := ⟨_, rfl⟩
      rw [← hO] at hown hol hdl HST ⊢
      clear hO
      by_cases hok : x.Ok
      · go_wp2_with fail
        refine (lsound_yes x _ hok).mono ?_
        rintro e w2 ⟨rfl, hb2⟩
        have hown2 := own_below hown hb2
        have hw2 := hb2.size; try simp only [World.size_alloc] at hw2
        have hbw2 : Below w.heap.size w w2 := by (repeat (first | (with_reducible assumption) | (with_reducible exact Below.refl _ _) | ((with_reducible refine Below.setCell ?_ ?_ _); rotate_left; · (first | omega | (simp; done) | (simp; omega) | (simp at *; omega))) | ((with_reducible refine Below.alloc ?_ ?_ _); rotate_left; · (first | omega | (simp; done) | (simp; omega) | (simp at *; omega))) | (with_reducible refine Below.drew ?_) | (with_reducible refine below_drewN ?_ _) | ((refine Below.trans ?_ (Below.mono (by with_reducible assumption) ?_)); rotate_left; · (first | omega | (simp; done) | (simp; omega) | (simp at *; omega)))))
        have g0 := (hb2.cell (p := ⟨b, off + k * 3, none⟩) (by show b < _; omega)).trans h0
        have g1 := (hb2.cell (p := ⟨b, off + k * 3 + 1, none⟩) (by show b < _; omega)).trans h1'
        have g2 := (hb2.cell (p := ⟨b, off + k * 3 + 2, none⟩) (by show b < _; omega)).trans h2'
        clear hown h0 h1' h2' hb2
        rw [if_pos hok] at HST
        have k3 : O.length + 1 ≤ maxLen := by unfold maxLen; omega
        have k4 : (O.length + 1) * 24 ≤ 140737488355328 := by omega
        have k5 : w.heap.size ≤ (w2.alloc (.cells #[.int .i64 x.e, .int .i64 x.n, .int .i64 x.f] 29)).heap.size := by simp; omega
        have k2 : ∀ u ∈ [Value.int .i64 x.e, .int .i64 x.n, .int .i64 x.f], u.oneCell' = true := by simp [Value.oneCell']
        by_cases hxn : x.n ≤ now
        · go_wp2_with (at_builtin; refine wpList_append_own _ rfl (.tmp 36) (.tmp 41) 22 rfl w.heap.size 29 i0 _ 3 24 Try.underlying22 hi0 hz0 hz1 hz2 rfl (by omega) _ O.length (O.flatMap scells) rfl (hown2.alloc _) ⟨w2.heap.size, 0, none⟩ 1 1 [.int .i64 x.e, .int .i64 x.n, .int .i64 x.f] rfl rfl (World.news_of_block (cs := #[.int .i64 x.e, .int .i64 x.n, .int .i64 x.f]) (t := 29) (fr := (0, 0)) (heap_alloc_new w2 _)) k2 k3 k4 k5 ?_; intro v' w3 hown3 hgrow _; have hb3 : Below w.heap.size w w3 := (hbw2.alloc (by omega) _).grown hgrow k5 (fun q hq => (hown2.lt q hq).1); have q1 := (hb3.cell (p := ⟨b, off + k * 3 + 1, none⟩) hb).trans HC1.out)
          have hx1 : dueMany now [x] = 1 := by simp [dueMany, hxn]
          go_roundg (L.length - (k + 1))
          case measure => omega
          case rel =>
            refine ⟨k + 1, by omega, rfl, by go_num, ?_, ?_, hb3⟩
            · rw [HST.out, due_step, hx1]; go_num
            · rw [HST.out, List.length_append, List.flatMap_append]; simpa [scells] using hown3
        · have hx0 : dueMany now [x] = 0 := by simp [dueMany]; omega
          go_wp2_with (at_builtin; refine wpList_append_own _ rfl (.tmp 36) (.tmp 41) 22 rfl w.heap.size 29 i0 _ 3 24 Try.underlying22 hi0 hz0 hz1 hz2 rfl (by omega) _ O.length (O.flatMap scells) rfl (hown2.alloc _) ⟨w2.heap.size, 0, none⟩ 1 1 [.int .i64 x.e, .int .i64 x.n, .int .i64 x.f] rfl rfl (World.news_of_block (cs := #[.int .i64 x.e, .int .i64 x.n, .int .i64 x.f]) (t := 29) (fr := (0, 0)) (heap_alloc_new w2 _)) k2 k3 k4 k5 ?_; intro v' w3 hown3 hgrow _; have hb3 : Below w.heap.size w w3 := (hbw2.alloc (by omega) _).grown hgrow k5 (fun q hq => (hown2.lt q hq).1); have q1 := (hb3.cell (p := ⟨b, off + k * 3 + 1, none⟩) hb).trans HC1.out)
          go_roundg (L.length - (k + 1))
          case measure => omega
          case rel =>
            refine ⟨k + 1, by omega, rfl, by go_num, ?_, ?_, hb3⟩
            · rw [HST.out, due_step, hx0]; go_num
            · rw [HST.out, List.length_append, List.flatMap_append]; simpa [scells] using hown3
      · rw [if_neg hok] at HST
        go_wp2_with fail
        refine (lsound_no x _ hok).mono ?_
        rintro e w2 ⟨rfl, hb2⟩
        have hown2 := own_below hown hb2
        have hw2 := hb2.size; try simp only [World.size_alloc] at hw2
        have hbw2 : Below w.heap.size w w2 := by (repeat (first | (with_reducible assumption) | (with_reducible exact Below.refl _ _) | ((with_reducible refine Below.setCell ?_ ?_ _); rotate_left; · (first | omega | (simp; done) | (simp; omega) | (simp at *; omega))) | ((with_reducible refine Below.alloc ?_ ?_ _); rotate_left; · (first | omega | (simp; done) | (simp; omega) | (simp at *; omega))) | (with_reducible refine Below.drew ?_) | (with_reducible refine below_drewN ?_ _) | ((refine Below.trans ?_ (Below.mono (by with_reducible assumption) ?_)); rotate_left; · (first | omega | (simp; done) | (simp; omega) | (simp at *; omega)))))
        clear hb2 hown
        go_wp2_with fail
        go_roundg (L.length - (k + 1))
        case measure => omega
        case rel => exact ⟨k + 1, by omega, rfl, by go_num, by rw [HST.out, List.append_nil], by rw [HST.out, List.append_nil]; exact hown2, hbw2⟩
    · obtain rfl : k = L.length := by omega
      have hki : ¬ (L.length : Int) < (L.length : Int) := by omega
      have hall : ∀ i, i < (ownTo L L.length).length → ((ownTo L L.length).getD i z0).Ok := by
        intro i hi
        have hm : (ownTo L L.length).getD i z0 ∈ ownTo L L.length := by
          rw [List.getD_eq_getElem?_getD, List.getElem?_eq_getElem hi]
          exact List.getElem_mem hi
        have := (List.mem_filter.1 hm).2
        simpa using this
      have hol := own_le L L.length
      have hdl := due_le now (ownTo L L.length)
      have HALL := Lib.hid hall
      obtain ⟨O, hO⟩ : ∃ O, O = ownTo L L.length := ⟨_, rfl⟩
      rw [← hO] at hown hol hdl HALL ⊢
      clear hO hall HA hlt hk
      have hws := hbw.size
      have hmk := fun W => run_make_rowN (P := Try.prog) 40 4 ib _ Try.underlying40 hib hzb0 .i64 .i64 O.length O.length (Nat.le_refl _) (by rw [hzb2]; omega) (by omega) W
      rw [hzb1, Nat.mul_one] at hmk
      simp only [Value.cells] at hmk
      by_cases hO0 : O.length = 0
      · obtain rfl : O = [] := List.eq_nil_of_length_eq_zero hO0
        obtain ⟨A', c', hv⟩ := slice_of_own hown
        simp only [List.length_nil] at hv
        rw [hv]
        clear hO0 HALL hol hdl hown hv
        simp only [List.length_nil, Int.natCast_zero] at hmk
        have hd0 : ((dueMany now [] : Nat) : Int) = 0 := by simp [dueMany]
        rw [hd0]
        clear hd0
        go_wp2_with fail
        go_loopg [9, 10] 0 (fun g lv nv w2 => lv = .int .i64 0 ∧ nv = .int .i64 0 ∧ wr.alloc (.cells (madeCells #[.bool false] 0) 4) = w2)
        case atStart => exact ⟨rfl, rfl, rfl⟩
        case round =>
          obtain ⟨rfl, rfl, rfl⟩ := hrel
          go_wp2_with fail
          refine (wake_n A' 0 c' [] (-1) _ rfl (fun h => absurd h (by simp)) (Nat.zero_le _) (by omega) rfl).mono ?_
          rintro e w3 ⟨rfl, hb3⟩
          have hw3 := hb3.size; try simp only [World.size_alloc] at hw3
          have hbw3 : Below w.heap.size w w3 := by (repeat (first | (with_reducible assumption) | (with_reducible exact Below.refl _ _) | ((with_reducible refine Below.setCell ?_ ?_ _); rotate_left; · (first | omega | (simp; done) | (simp; omega) | (simp at *; omega))) | ((with_reducible refine Below.alloc ?_ ?_ _); rotate_left; · (first | omega | (simp; done) | (simp; omega) | (simp at *; omega))) | (with_reducible refine Below.drew ?_) | (with_reducible refine below_drewN ?_ _) | ((refine Below.trans ?_ (Below.mono (by with_reducible assumption) ?_)); rotate_left; · (first | omega | (simp; done) | (simp; omega) | (simp at *; omega)))))
          clear hb3
          go_wp2_with fail
          refine (due_n A' 0 c' [] now (-1) _ rfl (fun h => absurd h (by simp)) (Nat.zero_le _) rfl).mono ?_
          rintro e w4 ⟨rfl, hb4⟩
          have hw4 := hb4.size; try simp only [World.size_alloc] at hw4
          have hbw4 : Below w.heap.size w w4 := by (repeat (first | (with_reducible assumption) | (with_reducible exact Below.refl _ _) | ((with_reducible refine Below.setCell ?_ ?_ _); rotate_left; · (first | omega | (simp; done) | (simp; omega) | (simp at *; omega))) | ((with_reducible refine Below.alloc ?_ ?_ _); rotate_left; · (first | omega | (simp; done) | (simp; omega) | (simp at *; omega))) | (with_reducible refine Below.drew ?_) | (with_reducible refine below_drewN ?_ _) | ((refine Below.trans ?_ (Below.mono (by with_reducible assumption) ?_)); rotate_left; · (first | omega | (simp; done) | (simp; omega) | (simp at *; omega)))))
          clear hb4
          go_wp2_with fail
          refine (known_any _).mono ?_
          rintro e w5 ⟨rfl, hb5⟩
          have hw5 := hb5.size; try simp only [World.size_alloc] at hw5
          go_wp2_with fail
          go_ret
          exact ⟨rfl, by (repeat (first | (with_reducible assumption) | (with_reducible exact Below.refl _ _) | ((with_reducible refine Below.setCell ?_ ?_ _); rotate_left; · (first | omega | (simp; done) | (simp; omega) | (simp at *; omega))) | ((with_reducible refine Below.alloc ?_ ?_ _); rotate_left; · (first | omega | (simp; done) | (simp; omega) | (simp at *; omega))) | (with_reducible refine Below.drew ?_) | (with_reducible refine below_drewN ?_ _) | ((refine Below.trans ?_ (Below.mono (by with_reducible assumption) ?_)); rotate_left; · (first | omega | (simp; done) | (simp; omega) | (simp at *; omega)))))⟩
      · obtain ⟨g, cp, hv, hg, hnc, hcm, hrow⟩ := row_of_own hown (by omega)
        rw [hv]
        clear hown hv
        have hgl := hrow.lt
        have HDN := World.rowIs_made wr (.bool false) O.length 4
        have HB := Lib.hid HDN
        have HR := Lib.hid hrow
        clear HDN hrow
        go_wp2_with fail
        have hdue0 : Fair now O (fun _ => false) 0 (dueMany now O) := ⟨HALL.out, fun _ _ h => (by cases h), rfl, fun i hi _ => (HALL.out i hi).2.2.1⟩
        have hbw1 : Below w.heap.size w (wr.alloc (.cells (madeCells #[.bool false] O.length) 4)) := by (repeat (first | (with_reducible assumption) | (with_reducible exact Below.refl _ _) | ((with_reducible refine Below.setCell ?_ ?_ _); rotate_left; · (first | omega | (simp; done) | (simp; omega) | (simp at *; omega))) | ((with_reducible refine Below.alloc ?_ ?_ _); rotate_left; · (first | omega | (simp; done) | (simp; omega) | (simp at *; omega))) | (with_reducible refine Below.drew ?_) | (with_reducible refine below_drewN ?_ _) | ((refine Below.trans ?_ (Below.mono (by with_reducible assumption) ?_)); rotate_left; · (first | omega | (simp; done) | (simp; omega) | (simp at *; omega)))))
        have hgd : g ≠ wr.heap.size := by omega
        obtain ⟨dm, hdm⟩ : ∃ dm, dm = dueMany now O := ⟨_, rfl⟩
        rw [← hdm] at hdue0 hdl ⊢
        obtain ⟨m, hm⟩ : ∃ m, m = O.length := ⟨_, rfl⟩
        rw [← hm] at HB hdl hol hnc hbw1 HR hO0 ⊢
        have HD0 := Lib.hid hdue0
        have HM := Lib.hid hm
        clear hdm hdue0 hm
        obtain ⟨dd, hdd⟩ : ∃ dd, dd = wr.heap.size := ⟨_, rfl⟩
        obtain ⟨W0, hW0⟩ : ∃ W0, W0 = wr.alloc (.cells (madeCells #[.bool false] m) 4) := ⟨_, rfl⟩
        have HR0 := Lib.hid (HR.out.alloc (.cells (madeCells #[.bool false] m) 4))
        rw [← hW0] at hbw1 HB HR0 ⊢
        rw [← hdd] at HB hgd ⊢
        have hwd : w.heap.size ≤ dd := by rw [hdd]; exact hws
        clear hW0 HR hdd hgl hws hbw
        go_loopg [9, 10] dm (fun gk lv nv w2 => ∃ (n : Nat) (Q : List Slot) (D : Nat → Bool) (last : Int), n ≤ dm ∧ gk = dm - n ∧ nv = .int .i64 n ∧ lv = .int .i64 last ∧ Q.length = m ∧ SlotRow w2 g m (fun i => Q.getD i z0) ∧ w2.rowIs dd 4 m (fun i => .bool (D i)) ∧ Fair now Q D last (dm - n) ∧ Below w.heap.size w w2)
        case atStart => exact ⟨0, O, fun _ => false, 0, Nat.zero_le _, rfl, rfl, rfl, HM.out.symm, HR0.out, HB.out, HD0.out, hbw1⟩
        case round =>
          clear HB HR0 HD0 hbw1 HM HALL
          obtain ⟨n, Q, D, last, hn, rfl, rfl, rfl, hQ, hrow, hdn, hfair, hbw⟩ := hrel
          have hcm' : cp ≤ 9223372036854775807 := by unfold maxLen at hcm; omega
          have hgl2 := hrow.lt
          have hdl2 := hdn.lt
          by_cases hlt : n < dm
          · have hni : (n : Int) < (dm : Int) := by omega
            rw [show dm - n = (dm - (n + 1)) + 1 by omega] at hfair
            obtain ⟨j, j1, j2, j3, j4, j5, j6, j7⟩ := hfair.step (fun e n => n + e * (1 + (max 0 (now - n)) / e))
              (fun s hs => by obtain ⟨an, ha, a1, _⟩ := well_facts s now hs ⟨h1, h2⟩; rw [done_well_is s now hs ⟨h1, h2⟩] at ha; injection ha with _ ha _; rw [ha]; exact a1)
              (fun s hs hle => by obtain ⟨an, ha, _, _, _, _, _, a6, _⟩ := well_facts s now hs ⟨h1, h2⟩; rw [done_well_is s now hs ⟨h1, h2⟩] at ha; injection ha with _ ha _; rw [ha]; exact a6 (by omega))
            go_wp2_with fail
            refine (due_n (some ⟨g, 0, none⟩) m cp Q now j _ hQ (by rw [← hQ] at hrow; exact hrow.at_) (by omega) (by rw [← hQ]; exact j1)).mono ?_
            rintro e w3 ⟨rfl, hb3⟩
            have hrow3 := hrow.below hb3 hgl2
            have hdn3 : w3.rowIs dd 4 m (fun i => .bool (D i)) := hdn.of_block (hb3.block dd hdl2)
            have hw3 := hb3.size; try simp only [World.size_alloc] at hw3
            have hbw3 : Below w.heap.size w w3 := by (repeat (first | (with_reducible assumption) | (with_reducible exact Below.refl _ _) | ((with_reducible refine Below.setCell ?_ ?_ _); rotate_left; · (first | omega | (simp; done) | (simp; omega) | (simp at *; omega))) | ((with_reducible refine Below.alloc ?_ ?_ _); rotate_left; · (first | omega | (simp; done) | (simp; omega) | (simp at *; omega))) | (with_reducible refine Below.drew ?_) | (with_reducible refine below_drewN ?_ _) | ((refine Below.trans ?_ (Below.mono (by with_reducible assumption) ?_)); rotate_left; · (first | omega | (simp; done) | (simp; omega) | (simp at *; omega)))))
            have hjm : j < m := by omega
            obtain ⟨c0, c1, c2⟩ := hrow3.cells hjm
            have hdc := hdn3.cell hjm
            have hdf := hdn3.frozen j
            rw [j3] at hdc
            have HQ := Lib.hid hQ
            have H7 := Lib.hid j7
            obtain ⟨x, hx⟩ : ∃ x, x = Q.getD j z0 := ⟨_, rfl⟩
            rw [← hx] at c0 c1 c2 j4 j5 j6
            have HX := Lib.hid hx
            have hax := done_well_is x now j6 ⟨h1, h2⟩
            obtain ⟨an, han⟩ : ∃ an, an = x.n + x.e * (1 + (max 0 (now - x.n)) / x.e) := ⟨_, rfl⟩
            rw [← han] at hax
            have HAN := Lib.hid han
            have HDN := Lib.hid (fun W => done_at x _ now true W hax)
            have hji : (j : Int) < (m : Int) := by omega
            have hj0 : (0 : Int) ≤ (j : Int) := by omega
            have hjb : decide ((j : Int) < 0) = false := by simp
            have hgd' : ¬ dd = g := fun e => hgd e.symm
            have HR3 := Lib.hid hrow3
            have HD3 := Lib.hid hdn3
            clear hrow hdn hrow3 hdn3 hb3 hQ j1 j2 j3 j7 hx hax han hfair hbw j6
            go_wp2_with fail
            refine (HDN.out _).mono ?_
            rintro e w5 ⟨rfl, hb5⟩
            have hrow5 := (HR3.out.far (p := ⟨dd, j, none⟩) hgd (.bool true)).below hb5 (by first | omega | (simp; done) | (simp; omega) | (simp at *; omega))
            have hdn5 : w5.rowIs dd 4 m (fun i => if i = j then .bool true else .bool (D i)) := (HD3.out.set j (.bool true)).of_block (hb5.block dd (by first | omega | (simp; done) | (simp; omega) | (simp at *; omega)))
            have hz5 := hb5.size
            simp only [World.size_setCell] at hz5
            have hbw5 : Below w.heap.size w w5 := by (repeat (first | (with_reducible assumption) | (with_reducible exact Below.refl _ _) | ((with_reducible refine Below.setCell ?_ ?_ _); rotate_left; · (first | omega | (simp; done) | (simp; omega) | (simp at *; omega))) | ((with_reducible refine Below.alloc ?_ ?_ _); rotate_left; · (first | omega | (simp; done) | (simp; omega) | (simp at *; omega))) | (with_reducible refine Below.drew ?_) | (with_reducible refine below_drewN ?_ _) | ((refine Below.trans ?_ (Below.mono (by with_reducible assumption) ?_)); rotate_left; · (first | omega | (simp; done) | (simp; omega) | (simp at *; omega)))))
            obtain ⟨d0, d1, d2⟩ := hrow5.cells hjm
            have f0 := hrow5.frozen (j * 3)
            have f1 := hrow5.frozen (j * 3 + 1)
            have f2 := hrow5.frozen (j * 3 + 2)
            have HR5 := Lib.hid (hrow5.store hjm ⟨x.e, an, 0⟩)
            have HD5 := Lib.hid hdn5
            clear hrow5 hdn5 hb5
            go_wp2_with fail
            go_roundg (dm - (n + 1))
            case measure => omega
            case rel =>
              have hq7 := H7.out
              rw [← HX.out, ← HAN.out] at hq7
              refine ⟨n + 1, Q.set j ⟨x.e, an, 0⟩, fun i => if i = j then true else D i, x.n, by omega, rfl, by go_num, rfl, by rw [List.length_set]; exact HQ.out, ?_, ?_, hq7, ?_⟩
              · exact HR5.out.congr (fun i _ => (getD_set Q j (by rw [HQ.out]; exact hjm) _ i).symm)
              · exact (((HD5.out.setOther (a := ⟨g, j * 3, none⟩) hgd' _).setOther (a := ⟨g, j * 3 + 1, none⟩) hgd' _).setOther (a := ⟨g, j * 3 + 2, none⟩) hgd' _).congr (fun i _ => by by_cases e : i = j <;> simp [e])
              · (repeat (first | (with_reducible assumption) | (with_reducible exact Below.refl _ _) | ((with_reducible refine Below.setCell ?_ ?_ _); rotate_left; · (first | omega | (simp; done) | (simp; omega) | (simp at *; omega))) | ((with_reducible refine Below.alloc ?_ ?_ _); rotate_left; · (first | omega | (simp; done) | (simp; omega) | (simp at *; omega))) | (with_reducible refine Below.drew ?_) | (with_reducible refine below_drewN ?_ _) | ((refine Below.trans ?_ (Below.mono (by with_reducible assumption) ?_)); rotate_left; · (first | omega | (simp; done) | (simp; omega) | (simp at *; omega)))))
          · obtain rfl : n = dm := by omega
            have hni : ¬ (n : Int) < (n : Int) := by omega
            rw [Nat.sub_self] at hfair
            have hnone := due_none hfair.many
            have hwk := wake_above Q now m (by omega) (by rw [← hQ]; exact hnone)
            have hdu : dueTo Q now m = -1 := by
              rw [← hQ]
              rcases dueIs Q now Q.length with ⟨h, _⟩ | ⟨j, _, j2, j3, _⟩
              · exact h
              · have := hnone j j2; omega
            obtain ⟨wk, hwk'⟩ : ∃ wk, wk = wakeTo Q m := ⟨_, rfl⟩
            rw [← hwk'] at hwk
            have HW := Lib.hid hwk'
            have HQ := Lib.hid hQ
            have HDU := Lib.hid hdu
            have HRW := Lib.hid hrow
            have hm0 : ((m : Int) == 0) = false := by rw [beq_eq_false_iff_ne]; omega
            have hm1 : (0 : Int) < (m : Int) := by omega
            have hm2 : 0 < m := by omega
            clear hdn hfair hnone hwk' hQ hdu hrow
            go_wp2_with fail
            refine (wake_n (some ⟨g, 0, none⟩) m cp Q wk _ HQ.out (by have h := HRW.out; rw [← HQ.out] at h; exact h.at_) hnc (by omega) HW.out.symm).mono ?_
            rintro e w3 ⟨rfl, hb3⟩
            have hr3 := HRW.out.below hb3 hgl2
            have hw3 := hb3.size; try simp only [World.size_alloc] at hw3
            have hbw3 : Below w.heap.size w w3 := by (repeat (first | (with_reducible assumption) | (with_reducible exact Below.refl _ _) | ((with_reducible refine Below.setCell ?_ ?_ _); rotate_left; · (first | omega | (simp; done) | (simp; omega) | (simp at *; omega))) | ((with_reducible refine Below.alloc ?_ ?_ _); rotate_left; · (first | omega | (simp; done) | (simp; omega) | (simp at *; omega))) | (with_reducible refine Below.drew ?_) | (with_reducible refine below_drewN ?_ _) | ((refine Below.trans ?_ (Below.mono (by with_reducible assumption) ?_)); rotate_left; · (first | omega | (simp; done) | (simp; omega) | (simp at *; omega)))))
            clear hb3
            go_wp2_with fail
            refine (due_n (some ⟨g, 0, none⟩) m cp Q now (-1) _ HQ.out (by rw [← HQ.out] at hr3; exact hr3.at_) (by omega) HDU.out).mono ?_
            rintro e w4 ⟨rfl, hb4⟩
            have hw4 := hb4.size; try simp only [World.size_alloc] at hw4
            have hbw4 : Below w.heap.size w w4 := by (repeat (first | (with_reducible assumption) | (with_reducible exact Below.refl _ _) | ((with_reducible refine Below.setCell ?_ ?_ _); rotate_left; · (first | omega | (simp; done) | (simp; omega) | (simp at *; omega))) | ((with_reducible refine Below.alloc ?_ ?_ _); rotate_left; · (first | omega | (simp; done) | (simp; omega) | (simp at *; omega))) | (with_reducible refine Below.drew ?_) | (with_reducible refine below_drewN ?_ _) | ((refine Below.trans ?_ (Below.mono (by with_reducible assumption) ?_)); rotate_left; · (first | omega | (simp; done) | (simp; omega) | (simp at *; omega)))))
            clear hb4 hr3
            go_wp2_with fail
            refine (known_any _).mono ?_
            rintro e w5 ⟨rfl, hb5⟩
            have hw5 := hb5.size; try simp only [World.size_alloc] at hw5
            go_wp2_with fail
            go_ret
            exact ⟨rfl, by (repeat (first | (with_reducible assumption) | (with_reducible exact Below.refl _ _) | ((with_reducible refine Below.setCell ?_ ?_ _); rotate_left; · (first | omega | (simp; done) | (simp; omega) | (simp at *; omega))) | ((with_reducible refine Below.alloc ?_ ?_ _); rotate_left; · (first | omega | (simp; done) | (simp; omega) | (simp at *; omega))) | (with_reducible refine Below.drew ?_) | (with_reducible refine below_drewN ?_ _) | ((refine Below.trans ?_ (Below.mono (by with_reducible assumption) ?_)); rotate_left; · (first | omega | (simp; done) | (simp; omega) | (simp at *; omega)))))⟩

theorem walk (A : Option Addr) (cap : Nat) (L : List Slot) (now : Int) (w : World) (hA : SlotsAt w A L) :
    Calls Try.prog 7 #[.slice A L.length cap, .int .i64 now] w fun e w' => e = .returned (.bool true) ∧ Below w.heap.size w w' := by
  by_cases h : 0 ≤ now ∧ now ≤ 1099511627776 ∧ L.length ≤ 200
  · exact walk_yes A cap L now w hA h.1 h.2.1 h.2.2
  · exact walk_no A cap L now w (by omega)

theorem own : ownKnob Try.prog.godebug = none := by kernel_rfl

set_option maxRecDepth 100000 in
theorem lifted (os : Os) (started : os.Started) (H : Type) (enc : TypeId × Value → H) :
    ReturnsInHanded {} Try.checked os 7 .any (Rows.slotsFairSpec.pre6 enc Try.prog Try.f7 Rows.slotsFairRow.domain false) (Rows.slotsFairSpec.post enc Try.prog Try.f7 false true false false) := by
  refine law_lifted (C := Try.checked) (tb := 4) own started (by kernel_rfl) Try.func7
    (ChangeSpec.witness6 (enc := enc) (C := Try.checked) false ⟨#[], #[.slice none 0 0, .int .i64 0], []⟩ 8 (by kernel_rfl) (by kernel_rfl) (by kernel_rfl) (by kernel_rfl))
    rfl (by kernel_rfl) (by kernel_rfl) (by kernel_rfl) Try.underlying4 (fun ds h => ?_) ?_
  · rw [show Try.f7.params = #[22, 3] from Try.params7] at h
    match ds, h with
    | [_, _], _ => rfl
  · intro W base args ds before hval hA hlt hsz
    rw [show Try.f7.params = #[22, 3] from Try.params7] at hA hval hsz
    obtain ⟨v0, vs0, d0, ds0, p0, q0, hargs, rfl, rfl, h0, r0⟩ := trodAll_cons hA
    obtain ⟨v1, vs1, d1, ds1, p1, q1, rfl, rfl, rfl, h1, r1⟩ := trodAll_cons r0
    obtain ⟨rfl, rfl, rfl⟩ := trodAll_nil r1
    obtain rfl : args = #[v0, v1] := by cases args; simp_all
    obtain ⟨A, cap, L, rfl, _, _, hS, _⟩ := open_slots (hval 0 _ v0 rfl rfl) h0 hsz (j := 0) rfl rfl
    obtain ⟨now, rfl, _, _, _⟩ := open_int Try.underlying3 (hval 1 3 v1 rfl rfl) h1
    exact walk A cap L now W hS

theorem proved : Rows.SlotsFairSaid :=
  OpenClaim.holds_of_wide 7 Try.f7 rfl rfl rfl rfl rfl rfl rfl ⟨rfl, rfl, rfl, rfl, rfl⟩ rfl rfl rfl rfl rfl (by kernel_rfl) Try.func7 (by kernel_rfl)
    (of_decide_eq_true (by kernel_rfl)) (by unfold Func.isWrapper; rw [if_neg (of_decide_eq_false (by kernel_rfl))]; exact ⟨rfl, rfl⟩)
    (fun os started H enc _ => lifted os started H enc)
#print axioms proved
end SlotsFair
end Go.Proofs.Ytaccbkmlkmdmpaa
