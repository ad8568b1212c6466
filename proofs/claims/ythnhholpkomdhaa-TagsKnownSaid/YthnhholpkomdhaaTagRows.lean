/-
  What is proved here: lists of tags that are held against each other, lent, looked at again (package outstationkit). Conditions: each theorem's own.
-/
import Derived.Test.YthnhholpkomdhaaTagFind
import Derived.Laws.MakeOwn
import Derived.RegionTactic
import Derived.BigRegion
namespace Go.Proofs.Ythnhholpkomdhaa
open Go.RowKit Go.Deep
attribute [local go_sem ↓ high] loadTag_eq storeTag_eq
attribute [local go_sem] run_storeTag_new run_loadTag_new
attribute [local go_sem high] ne_self

theorem range_drewN {w : World} {b o : Nat} {cs : List Value} (h : w.rangeAt b o cs) (n : Nat) : (w.drewN n).rangeAt b o cs := h
theorem tag_ext {L M : List Tag} (hl : L.length = M.length) (h : ∀ j, j < L.length → L.getD j t0 = M.getD j t0) : L = M := by
  apply List.ext_getElem hl
  intro i h1 h2
  have := h i h1
  simpa [h1, h2] using this

theorem same_tags (A B : Option Addr) (ca cb : Nat) (L : List Tag) (w : World) (hA : TagsAt w A L) (hB : TagsAt w B L) (hlen : L.length ≤ 140737488351232) :
    Calls Try.prog 23 #[.slice A L.length ca, .slice B L.length cb] w fun e w' => e = .returned (.bool true) ∧ Below w.heap.size w w' := by
  have HA := Lib.hid hA
  have HB := Lib.hid hB
  clear hA hB
  go_enter Try.func23, Try.ntmps23
  go_wp2_with fail
  go_loopg [5] L.length (fun g i wr => ∃ k : Nat, k ≤ L.length ∧ g = L.length - k ∧ i = .int .i64 k ∧ Below w.heap.size w wr)
  case atStart => exact ⟨0, Nat.zero_le _, rfl, rfl, Below.refl _ _⟩
  case round =>
    obtain ⟨k, hk, rfl, rfl, hbw⟩ := hrel
    by_cases hlt : k < L.length
    · obtain ⟨b, off, rfl, hb, hr⟩ := HA.out.at_ hbw hlt
      obtain ⟨b', off', rfl, hb', hr'⟩ := HB.out.at_ hbw hlt
      obtain ⟨x, hx⟩ : ∃ x, x = L.getD k t0 := ⟨_, rfl⟩
      rw [← hx] at hr hr'
      clear hx
      have HR := Lib.hid hr
      have HR' := Lib.hid hr'
      clear hr hr'
      have hki : (k : Int) < (L.length : Int) := by omega
      have hk0 : (0 : Int) ≤ (k : Int) := by omega
      go_wp2_with fail
      go_region_held3 (fun w' => (loadTag ⟨b, off + k * 19, none⟩).run Try.prog w' = .ok (.agg x.cells) w' ∧ (loadTag ⟨b', off' + k * 19, none⟩).run Try.prog w' = .ok (.agg x.cells) w')
        (first
          | exact ⟨range_load HR.out, range_load HR'.out⟩
          | exact ⟨range_load (range_drewN HR.out 1), range_load (range_drewN HR'.out 1)⟩)
        (fail)
      go_wp2_with fail
      go_roundg (L.length - (k + 1))
      case measure => omega
      case rel => exact ⟨k + 1, by omega, rfl, by go_num, by (repeat (first | (with_reducible assumption) | (with_reducible exact Below.refl _ _) | ((with_reducible refine Below.setCell ?_ ?_ _); rotate_left; · (first | omega | (simp; done) | (simp; omega) | (simp at *; omega))) | ((with_reducible refine Below.alloc ?_ ?_ _); rotate_left; · (first | omega | (simp; done) | (simp; omega) | (simp at *; omega))) | (with_reducible refine Below.drew ?_) | (with_reducible refine below_drewN ?_ _) | ((refine Below.trans ?_ (Below.mono (by with_reducible assumption) ?_)); rotate_left; · (first | omega | (simp; done) | (simp; omega) | (simp at *; omega)))))⟩
    · obtain rfl : k = L.length := by omega
      have hki : ¬ (L.length : Int) < (L.length : Int) := by omega
      go_wp2_with fail
      go_ret
      exact ⟨rfl, hbw⟩

/-- block g is a row of these tags. -/
def TRow (w : World) (g : Nat) (M : List Tag) : Prop := g < w.heap.size ∧ w.there g 0 (M.length * 19) ∧ ∀ i, i < M.length → w.rangeAt g (i * 19) (M.getD i t0).cells.toList
theorem TRow.below {w w' : World} {B g : Nat} {M : List Tag} (h : TRow w g M) (hb : Below B w w') (hg : g < B) : TRow w' g M := by
  refine ⟨Nat.lt_of_lt_of_le h.1 hb.size, fun j hj => ?_, fun i hi => rangeAt_below (h.2.2 i hi) hb hg⟩
  obtain ⟨h1, h2⟩ := h.2.1 j hj
  exact ⟨by rw [hb.cell (p := ⟨g, 0 + j, none⟩) hg]; exact h1, by rw [hb.frozen (p := ⟨g, 0 + j, none⟩) hg]; exact h2⟩
theorem TRow.at_ {w : World} {g : Nat} {M : List Tag} (h : TRow w g M) : TagsAt w (some ⟨g, 0, none⟩) M := fun _ => ⟨g, 0, rfl, h.1, fun i hi => by rw [Nat.zero_add]; exact h.2.2 i hi⟩
theorem TRow.take {w : World} {g : Nat} {M : List Tag} (h : TRow w g M) (n : Nat) (hn : n ≤ M.length) : TagsAt w (some ⟨g, 0, none⟩) (M.take n) := fun hp => by
  refine ⟨g, 0, rfl, h.1, fun i hi => ?_⟩
  have hl : (M.take n).length = n := by rw [List.length_take]; omega
  have := h.2.2 i (by omega)
  rw [Nat.zero_add]
  have e : (M.take n).getD i t0 = M.getD i t0 := by
    rw [hl] at hi
    simp [hi]
  rw [e]
  exact this
theorem cells_len (t : Tag) : t.cells.toList.length = 19 := rfl
theorem TRow.load {w : World} {g : Nat} {M : List Tag} (h : TRow w g M) {i : Nat} (hi : i < M.length) : (loadTag ⟨g, i * 19, none⟩).run Try.prog w = .ok (.agg (M.getD i t0).cells) w := range_load (h.2.2 i hi)
theorem TRow.run {w : World} {g : Nat} {M : List Tag} (h : TRow w g M) {i : Nat} (hi : i < M.length) (x : Tag) : (storeTag ⟨g, i * 19, none⟩ (.agg x.cells)).run Try.prog w = .ok () (w.setCells g (i * 19) x.cells.toList) :=
  run_storeVar_mid w g (i * 19) _ x.cells (fun j hj => by
    have := h.2.1 (i * 19 + j) (by rw [Tag.size] at hj; omega)
    rw [Nat.zero_add] at this
    exact this) tagI x.one
theorem below_setCells {B : Nat} {a : World} {g : Nat} (hg : B ≤ g) : ∀ (vs : List Value) (o : Nat) (w : World), Below B a w → Below B a (w.setCells g o vs)
  | [], _, _, h => h
  | v :: r, o, w, h => by
    rw [World.setCells]
    exact below_setCells hg r (o + 1) _ (h.setCell hg v)
theorem size_setCells (g : Nat) : ∀ (vs : List Value) (o : Nat) (w : World), (w.setCells g o vs).heap.size = w.heap.size
  | [], _, _ => rfl
  | v :: r, o, w => by
    rw [World.setCells, size_setCells g r (o + 1)]
    simp [World.setCell]
theorem TRow.set {w : World} {g : Nat} {M : List Tag} (h : TRow w g M) {i : Nat} (hi : i < M.length) (x : Tag) : TRow (w.setCells g (i * 19) x.cells.toList) g (M.set i x) := by
  refine ⟨by rw [size_setCells]; exact h.1, by rw [List.length_set]; exact World.there_setCells h.2.1 _ _ _, fun j hj => ?_⟩
  rw [List.length_set] at hj
  by_cases e : j = i
  · subst e
    have : (M.set j x).getD j t0 = x := by simp [hi]
    rw [this]
    refine World.rangeAt_setCells_same w g _ _ (fun k hk => ?_)
    have := h.2.1 (j * 19 + k) (by rw [cells_len] at hk; omega)
    rw [Nat.zero_add] at this
    exact this
  · have : (M.set i x).getD j t0 = M.getD j t0 := by simp [Ne.symm e]
    rw [this]
    refine World.rangeAt_setCells_apart (h.2.2 j hj) _ _ _ ?_
    rw [cells_len, cells_len]
    by_cases hji : j < i
    · exact .inr (.inl (by omega))
    · exact .inr (.inr (by omega))
theorem infoT : (Try.prog.info? 29).map (fun i => (i.zero, i.size, i.bytes)) = some (some (.agg t0.cells), 19, 128) := by kernel_rfl
theorem TRow.made (w : World) (n : Nat) : TRow (w.alloc (.cells (madeCells t0.cells (n * 19)) 29)) w.heap.size (List.replicate n t0) := by
  have hc : ∀ o, o < n * 19 → (w.alloc (.cells (madeCells t0.cells (n * 19)) 29)).cell? ⟨w.heap.size, o, none⟩ = some (t0.cells[o % 19]!) := by
    intro o ho
    rw [cell_of_row _ _ _ _ _ _ (heap_alloc_last w _)]
    simp [madeCells, ho, Tag.size]
  refine ⟨by simp, fun j hj => ?_, fun i hi => ?_⟩
  · rw [List.length_replicate] at hj
    rw [Nat.zero_add, hc j hj]
    exact ⟨rfl, (Blk.new w _ _).frozen j⟩
  · rw [List.length_replicate] at hi
    intro j v hv
    have hj : j < 19 := by have := (List.getElem?_eq_some_iff.1 hv).1; rwa [cells_len] at this
    rw [hc _ (by omega)]
    have e : (List.replicate n t0).getD i t0 = t0 := by simp [hi]
    rw [e] at hv
    rw [show (i * 19 + j) % 19 = j by omega, ← hv, Array.getElem?_toList, getElem!_pos _ _ (by rw [Tag.size]; exact hj), Array.getElem?_eq_getElem (by rw [Tag.size]; exact hj)]
theorem run_make_tags (w : World) (n : Nat) (hn : n * 128 ≤ 281474976710656) :
    (Instr.makeSlice 35 (.int .i64 (n : Int)) (.int .i64 (n : Int))).run Try.prog w = .ok (.slice (some ⟨w.heap.size, 0, none⟩) n n) (w.alloc (.cells (madeCells t0.cells (n * 19)) 29)) := by
  obtain ⟨i0, hi0, hz0, hz1, hz2⟩ := info_parts infoT
  have hr := run_make (P := Try.prog) w 35 29 i0 _ Try.underlying35 hi0 hz0 .i64 .i64 n n (by omega) (by omega) (by rw [hz2]; omega) (by omega)
  simp only [Int.toNat_natCast, hz1] at hr
  exact hr
end Go.Proofs.Ythnhholpkomdhaa
