/-
  What is proved here: lists of tags in memory; what is wrong with a table, as package tags tells it (chapter 9). Conditions: each theorem's own.
-/
import Derived.Test.YthnhholpkomdhaaTagMem
import Derived.WalkLawsBesides
import Derived.Deep.LoopGhost
namespace Go.Proofs.Ythnhholpkomdhaa
open Go.RowKit Go.Deep
attribute [local go_sem ↓ high] loadTag_eq storeTag_eq
attribute [local go_sem] run_storeTag_new run_loadTag_new

def t0 : Tag := ⟨ByteArray.empty, 0, 0, 0, 0, ⟨false, false, false, 0, 0, 0⟩, ⟨0, 0⟩, ⟨false, false, false, 0, 0, 0⟩⟩
instance : Inhabited Tag := ⟨t0⟩
def TagsAt (w : World) (A : Option Addr) (L : List Tag) : Prop :=
  0 < L.length → ∃ b off, A = some ⟨b, off, none⟩ ∧ b < w.heap.size ∧ ∀ i, i < L.length → w.rangeAt b (off + i * 19) (L.getD i t0).cells.toList
theorem rangeAt_below {w w' : World} {B b o : Nat} {cs : List Value} (h : w.rangeAt b o cs) (hb : Below B w w') (hlt : b < B) : w'.rangeAt b o cs := fun j v hv =>
  (hb.cell (p := ⟨b, o + j, none⟩) hlt).trans (h j v hv)
theorem TagsAt.below {w w' : World} {B : Nat} {A : Option Addr} {L : List Tag} (h : TagsAt w A L) (hb : Below B w w') (hB : w.heap.size ≤ B) : TagsAt w' A L := by
  intro hp
  obtain ⟨b, off, e, hlt, hc⟩ := h hp
  exact ⟨b, off, e, Nat.lt_of_lt_of_le hlt hb.size, fun i hi => rangeAt_below (hc i hi) hb (Nat.lt_of_lt_of_le hlt hB)⟩
theorem range_load {w : World} {b o : Nat} {t : Tag} (h : w.rangeAt b o t.cells.toList) : (loadTag ⟨b, o, none⟩).run Try.prog w = .ok (.agg t.cells) w := by
  have := run_loadVar_mid (P := Try.prog) w b o _ t.cells.toList _ h tagU rfl tagI
  rw [Array.toArray_toList] at this
  exact this
theorem range_name {w : World} {b o : Nat} {t : Tag} (h : w.rangeAt b o t.cells.toList) : w.cell? ⟨b, o, none⟩ = some (.string t.g) := h 0 _ rfl
/-- the tag at a place, in a later world. -/
theorem TagsAt.at_ {w w' : World} {A : Option Addr} {L : List Tag} (h : TagsAt w A L) (hb : Below w.heap.size w w') {i : Nat} (hi : i < L.length) :
    ∃ b off, A = some ⟨b, off, none⟩ ∧ b < w.heap.size ∧ w'.rangeAt b (off + i * 19) (L.getD i t0).cells.toList := by
  obtain ⟨b, off, e, hlt, hc⟩ := h (by omega)
  exact ⟨b, off, e, hlt, rangeAt_below (hc i hi) hb hlt⟩

def sEq (a b : ByteArray) : Bool := a.toList == b.toList
def sLt (a b : ByteArray) : Bool := Op.bytesLess a.toList b.toList
/-- what is wrong at a place; 0: nothing. -/
def tagAt (L : List Tag) (i : Nat) : Int :=
  if (L.getD i t0).err ≠ 0 then (L.getD i t0).err
  else if decide (0 < i) && sEq (L.getD i t0).g (L.getD (i - 1) t0).g then 7
  else if decide (0 < i) && sLt (L.getD i t0).g (L.getD (i - 1) t0).g then 29
  else 0
/-- what is wrong with a table, and where. -/
def allOf (L : List Tag) : Int × Nat :=
  if 64 < L.length then (34, 0)
  else match (List.range L.length).find? (fun i => decide (tagAt L i ≠ 0)) with
    | some i => (tagAt L i, i)
    | none => (0, 0)
theorem allOf_many {L : List Tag} (h : 64 < L.length) : allOf L = (34, 0) := if_pos h
theorem find_range {p : Nat → Bool} : ∀ {n k : Nat}, k < n → p k = true → (∀ j, j < k → p j = false) → (List.range n).find? p = some k := by
  intro n k hk hp hj
  rw [List.find?_eq_some_iff_append]
  refine ⟨hp, List.range k, List.range' (k + 1) (n - k - 1), ?_, fun j hj' => by rw [hj j (List.mem_range.1 hj')]; rfl⟩
  have e : n = k + (1 + (n - k - 1)) := by omega
  conv => lhs; rw [e, List.range_eq_range', ← List.range'_append_1, ← List.range'_append_1]
  simp [List.range_eq_range']
theorem allOf_at {L : List Tag} {k : Nat} {e : Int} (h : ¬ 64 < L.length) (hk : k < L.length) (hj : ∀ j, j < k → tagAt L j = 0) (he : tagAt L k = e) (hn : e ≠ 0) : allOf L = (e, k) := by
  unfold allOf
  rw [if_neg h, find_range hk (decide_eq_true (by rw [he]; exact hn)) (fun j hlt => decide_eq_false (fun hh => hh (hj j hlt)))]
  simp [he]
theorem allOf_none {L : List Tag} (h : ¬ 64 < L.length) (hj : ∀ j, j < L.length → tagAt L j = 0) : allOf L = (0, 0) := by
  unfold allOf
  rw [if_neg h, List.find?_eq_none.2 (fun j hlt => by simp [hj j (List.mem_range.1 hlt)])]
/-- the name ahead of a place. -/
def lastOf (L : List Tag) (k : Nat) : ByteArray := if k = 0 then ByteArray.empty else (L.getD (k - 1) t0).g
theorem tagAt_err {L : List Tag} {k : Nat} (h : (L.getD k t0).err ≠ 0) : tagAt L k = (L.getD k t0).err := if_pos h
theorem tagAt_twice {L : List Tag} {k : Nat} (h : (L.getD k t0).err = 0) (h1 : 0 < k) (h2 : sEq (L.getD k t0).g (lastOf L k) = true) : tagAt L k = 7 := by
  unfold tagAt
  unfold lastOf at h2
  rw [if_neg (by omega)] at h2
  rw [if_neg (by rw [h]; simp), if_pos (by simp only [h2, decide_eq_true h1]; rfl)]
theorem sLt_empty (a : ByteArray) : sLt a ByteArray.empty = false := by
  unfold sLt
  have : ByteArray.empty.toList = [] := by decide +kernel
  rw [this]
  cases a.toList <;> rfl
theorem tagAt_order {L : List Tag} {k : Nat} (h : (L.getD k t0).err = 0) (h1 : 0 < k → sEq (L.getD k t0).g (lastOf L k) = false) (h2 : sLt (L.getD k t0).g (lastOf L k) = true) : tagAt L k = 29 := by
  have hk : 0 < k := by
    rcases Nat.eq_zero_or_pos k with h0 | h0
    · subst h0
      rw [show lastOf L 0 = ByteArray.empty from rfl, sLt_empty] at h2
      cases h2
    · exact h0
  have h1' := h1 hk
  unfold tagAt
  unfold lastOf at h1' h2
  rw [if_neg (by omega)] at h1' h2
  rw [if_neg (by rw [h]; simp), if_neg (by simp only [h1', Bool.and_false]; simp), if_pos (by simp only [h2, decide_eq_true hk]; rfl)]
theorem tagAt_fine {L : List Tag} {k : Nat} (h : (L.getD k t0).err = 0) (h1 : 0 < k → sEq (L.getD k t0).g (lastOf L k) = false) (h2 : sLt (L.getD k t0).g (lastOf L k) = false) : tagAt L k = 0 := by
  unfold tagAt
  rw [if_neg (by rw [h]; simp)]
  rcases Nat.eq_zero_or_pos k with h0 | h0
  · subst h0
    simp
  · have h1' := h1 h0
    unfold lastOf at h1' h2
    rw [if_neg (by omega)] at h1' h2
    rw [if_neg (by simp only [h1', Bool.and_false]; simp), if_neg (by simp only [h2, Bool.and_false]; simp)]
def NamesFit (L : List Tag) : Prop := ∀ i, i < L.length → (L.getD i t0).g.size ≤ 9223372036854775807

set_option maxRecDepth 100000 in
set_option maxHeartbeats 1000000 in
theorem all_any (A : Option Addr) (ca : Nat) (L : List Tag) (w : World) (hA : TagsAt w A L) (hN : NamesFit L) (hlen : L.length ≤ 9223372036854775807) :
    Calls Try.prog 16 #[.slice A L.length ca] w fun e w' => e = .returned (.tuple #[.int .i64 (allOf L).1, .int .i64 ((allOf L).2 : Nat)]) ∧ Below w.heap.size w w' := by
  have HA := Lib.hid hA
  have HN := Lib.hid hN
  clear hA hN
  by_cases h64 : 64 < L.length
  · have HD := Lib.hid (allOf_many h64)
    have g64 : (64 : Int) < (L.length : Int) := by omega
    go_enter Try.func16, Try.ntmps16
    go_wp2_with fail
    go_ret2
    exact ⟨by rw [HD.out]; rfl, Below.refl _ _⟩
  have g64 : ¬ (64 : Int) < (L.length : Int) := by omega
  have H64 := Lib.hid h64
  clear h64
  go_enter Try.func16, Try.ntmps16
  go_wp2_with fail
  go_loopg [4, 13] L.length (fun g s i wr => ∃ k : Nat, k ≤ L.length ∧ g = L.length - k ∧ i = .int .i64 k ∧ s = .string (lastOf L k) ∧ (∀ j, j < k → tagAt L j = 0) ∧ Below w.heap.size w wr)
  case atStart => exact ⟨0, Nat.zero_le _, rfl, rfl, rfl, fun j hj => absurd hj (by omega), Below.refl _ _⟩
  case round =>
    obtain ⟨k, hk, rfl, rfl, rfl, hfine, hbw⟩ := hrel
    have HF := Lib.hid hfine
    clear hfine
    by_cases hlt : k < L.length
    · obtain ⟨b, off, rfl, hb, hr⟩ := HA.out.at_ hbw hlt
      have hN := HN.out k hlt
      obtain ⟨x, hx⟩ : ∃ x, x = L.getD k t0 := ⟨_, rfl⟩
      rw [← hx] at hr hN
      have HX := Lib.hid hx
      have HNX := Lib.hid hN
      clear hx hN
      have hld := range_load hr
      have HR := Lib.hid hr
      clear hr
      obtain ⟨la, hla⟩ : ∃ la, la = lastOf L k := ⟨_, rfl⟩
      rw [← hla]
      have HLA := Lib.hid hla
      clear hla
      have hki : (k : Int) < (L.length : Int) := by omega
      have hk0 : (0 : Int) ≤ (k : Int) := by omega
      have HB := Lib.hid (show TB wr x (wr.alloc (.cells x.cells 29)) from ⟨Blk.new _ _ _, by (repeat (first | (with_reducible assumption) | (with_reducible exact Below.refl _ _) | ((with_reducible refine Below.setCell ?_ ?_ _); rotate_left; · (first | omega | (simp; done) | (simp; omega) | (simp at *; omega))) | ((with_reducible refine Below.alloc ?_ ?_ _); rotate_left; · (first | omega | (simp; done) | (simp; omega) | (simp at *; omega))) | (with_reducible refine Below.drew ?_) | (with_reducible refine below_drewN ?_ _) | ((refine Below.trans ?_ (Below.mono (by with_reducible assumption) ?_)); rotate_left; · (first | omega | (simp; done) | (simp; omega) | (simp at *; omega)))))⟩)
      go_upto_region 8 with (go_at_call 13; (with_reducible refine (tag_check x _ HNX.out).mono ?_); rintro e w1 ⟨rfl, hb1⟩)
      have hT := HB.out.on hb1
      have hbw1 : Below w.heap.size w w1 := hbw.trans (hT.2.mono hbw.size)
      have c0 := hT.1.cell 0
      have hlw := hT.1.lt
      clear HB hT hb1 hld
      have E0 : (x.cells)[0]? = some (Value.string x.g) := rfl
      rw [E0] at c0
      clear E0
      obtain ⟨er, her⟩ : ∃ er, er = x.err := ⟨_, rfl⟩
      rw [← her]
      have HE := Lib.hid her
      clear her
      by_cases hz : er = 0
      · subst hz
        have HZ := Lib.hid (show (L.getD k t0).err = 0 by rw [← HX.out, ← HE.out])
        obtain ⟨q, hq⟩ : ∃ q, q = sEq x.g la := ⟨_, rfl⟩
        have hq' : (x.g.toList == la.toList) = q := hq.symm
        have HQ := Lib.hid (show sEq (L.getD k t0).g (lastOf L k) = q by rw [← HX.out, ← HLA.out, hq])
        clear hq
        obtain ⟨r, hr⟩ : ∃ r, r = sLt x.g la := ⟨_, rfl⟩
        have hr' : Op.bytesLess x.g.toList la.toList = r := hr.symm
        have HRL := Lib.hid (show sLt (L.getD k t0).g (lastOf L k) = r by rw [← HX.out, ← HLA.out, hr])
        clear hr
        by_cases hk1 : 0 < k
        · have hk1' : (0 : Int) < (k : Int) := by omega
          cases q
          · cases r
            · have HT := Lib.hid (tagAt_fine HZ.out (fun _ => HQ.out) HRL.out)
              go_wp2_with fail
              go_roundg (L.length - (k + 1))
              case measure => omega
              case rel =>
                refine ⟨k + 1, by omega, rfl, by go_num, ?_, fun j hj => ?_, hbw1⟩
                · rw [HX.out]; rfl
                · by_cases e : j = k
                  · rw [e]; exact HT.out
                  · exact HF.out j (by omega)
            · have HD := Lib.hid (allOf_at H64.out hlt HF.out (tagAt_order HZ.out (fun _ => HQ.out) HRL.out) (by decide))
              go_wp2_with fail
              go_ret2
              exact ⟨by rw [HD.out]; rfl, hbw1⟩
          · have HD := Lib.hid (allOf_at H64.out hlt HF.out (tagAt_twice HZ.out hk1 HQ.out) (by decide))
            go_wp2_with fail
            go_ret2
            exact ⟨by rw [HD.out]; rfl, hbw1⟩
        · have hk1' : ¬ (0 : Int) < (k : Int) := by omega
          cases r
          · have HT := Lib.hid (tagAt_fine HZ.out (fun h => absurd h hk1) HRL.out)
            go_wp2_with fail
            go_roundg (L.length - (k + 1))
            case measure => omega
            case rel =>
              refine ⟨k + 1, by omega, rfl, by go_num, ?_, fun j hj => ?_, hbw1⟩
              · rw [HX.out]; rfl
              · by_cases e : j = k
                · rw [e]; exact HT.out
                · exact HF.out j (by omega)
          · have HD := Lib.hid (allOf_at H64.out hlt HF.out (tagAt_order HZ.out (fun h => absurd h hk1) HRL.out) (by decide))
            go_wp2_with fail
            go_ret2
            exact ⟨by rw [HD.out]; rfl, hbw1⟩
      · have n1 : (er != 0) = true := by rw [bne_iff_ne]; exact hz
        have HD := Lib.hid (allOf_at H64.out hlt HF.out (show tagAt L k = er by rw [tagAt_err (by rw [← HX.out, ← HE.out]; exact hz), ← HX.out, ← HE.out]) hz)
        clear hz
        go_wp2_with fail
        go_ret2
        exact ⟨by rw [HD.out]; rfl, hbw1⟩
    · obtain rfl : k = L.length := by omega
      have hki : ¬ (L.length : Int) < (L.length : Int) := by omega
      have HD := Lib.hid (allOf_none H64.out HF.out)
      go_wp2_with fail
      go_ret2
      exact ⟨by rw [HD.out]; rfl, hbw⟩
end Go.Proofs.Ythnhholpkomdhaa
