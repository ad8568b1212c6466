/-
  What is proved here: a tree made of a tree's pages; a value that was put is found; a gathered list of the call's own (chapter 15). Conditions: each theorem's own.
-/
import Derived.Test.YtmmikolcipcldaaTreeBuild
import Derived.Test.YtmmikolcipcldaaTreeNodes2
import Derived.Test.YtmmikolcipcldaaTreeSpoil
import Derived.Test.YtmmikolcipcldaaTreePlayed
import Derived.Test.YtmmikolcipcldaaTreeOpen
import Derived.Test.YtmmikolcipcldaaTreeSortLaws
namespace Go.Proofs.Ytmmikolcipcldaa
open Go.RowKit Go.Deep

theorem has_ins {k : Ky} {v : Int} {es : List En} (hu : Up es) : hasE k (insE k v es) = true := by
  unfold hasE
  rw [List.any_eq_true]
  exact ⟨(k, v), (insE_mem hu _).2 (.inl rfl), by simp⟩
theorem val_ins {k : Ky} {v : Int} {es : List En} (hu : Up es) : valE k (insE k v es) = v := by
  unfold valE
  cases hf : (insE k v es).find? (fun e => decide (e.1 = k)) with
  | none =>
    rw [List.find?_eq_none] at hf
    have := hf (k, v) ((insE_mem hu _).2 (.inl rfl))
    simp at this
  | some e =>
    have h1 := List.mem_of_find?_eq_some hf
    have h2 := List.find?_some hf
    rcases (insE_mem hu _).1 h1 with rfl | ⟨_, h3⟩
    · rfl
    · exact absurd (by simpa using h2) h3
theorem ins_len {k : Ky} {v : Int} {es : List En} (hu : Up es) : (insE k v es).length ≤ es.length + 1 := by
  rw [insE_len k v es hu]
  split <;> omega
theorem gath_len {a b : Ky} {es : List En} (hu : Up es) : (ranged a b es).length ≤ es.length := by
  rw [ranged_filter hu]
  exact List.length_filter_le _ _
section
variable {n tr d : Nat} {w W W' : World} {es : List En}
/-- pages that are a tree's make a tree of its entries. -/
theorem of_pages {l : List NdR} {A : Option Addr} {c : Nat} (hd2 : 2 ≤ d) (hd : d ≤ 16) (hl : es.length ≤ 1000000) (hu : Up es) (hp : PagesOf d l es) (hN : NdsAt W (.slice A l.length c) l) :
    Calls Try.prog 25 #[.int .i64 d, .slice A l.length c] W fun e w' => ∃ tr, e = .returned (.tuple #[.pointer (some ⟨tr, 0, none⟩), .int .i64 0]) ∧ Has W.heap.size W tr d es w' := by
  rcases Nat.eq_zero_or_pos l.length with h0 | hpos
  · obtain rfl : l = [] := List.eq_nil_of_length_eq_zero h0
    obtain rfl : es = [] := by
      rcases hp.2.2 with ⟨_, h⟩ | ⟨h, _⟩
      · exact h
      · exact absurd h (by simp)
    refine (of_empty A c W hd2 hd).mono ?_
    rintro e w' ⟨rfl, hw⟩
    exact ⟨_, rfl, Has.new hw (Below.refl _ _) (Nat.le_refl _)⟩
  · refine (of_any hd2 hd hpos hN (hp.fit hl)).mono ?_
    rintro e w' (⟨es', tr, h1, rfl, h2⟩ | ⟨h1, _⟩)
    · rw [hp.ofE hpos hu] at h1
      cases h1
      exact ⟨tr, rfl, h2⟩
    · rw [hp.ofE hpos hu] at h1
      cases h1
/-- a tree as it stands, whatever was before. -/
theorem Has.anew (h : Has n w tr d es W) {m : Nat} (hm : m ≤ tr) : Has m W tr d es W := ⟨h.tree, Below.refl _ _, hm⟩
/-- a tree behind a step that writes blocks below its own. -/
theorem Has.touch (h : Has n w tr d es W) {L : List Nat} (k : Touch W W' L) (hL : ∀ x ∈ L, x < n) : Has n W' tr d es W' := by
  obtain ⟨M, h1, h2, h3, h4, root, h5, h6⟩ := h.tree
  have hlow := h.low
  exact ⟨⟨M, h1.far k (fun x hx => by have := hL x hx; omega), Nat.le_trans h2 k.size, h3, h4, root, Blk.touch h5 k (fun hm => by have := hL _ hm; omega), h6⟩, Below.refl _ _, hlow⟩
theorem Has.gatO (h : Has n w tr d es W) (hd : d ≤ 16) (hl : es.length ≤ 1000000) (a b : Ky) : Calls Try.prog 17 #[.pointer (some ⟨tr, 0, none⟩), .agg #[.int .i64 a.t, .int .i64 a.s], .agg #[.int .i64 b.t, .int .i64 b.s]] W
    fun e w' => ∃ A c, e = .returned (.slice A (ranged a b es).length c) ∧ OwnE W.heap.size w' (.slice A (ranged a b es).length c) (ranged a b es) ∧ Below W.heap.size W w' := by
  obtain ⟨M, hM⟩ := h.tree
  obtain ⟨root, h1, h2⟩ := hM.at_
  have hes : Ents d M root es := by
    rcases h2 with h | ⟨p, H, FS, h, hT, _⟩
    · exact .inl h
    · exact .inr ⟨p, H, _, FS, h, hT⟩
  refine (callsIn_wide.1 (gathered_in hd hes hM.up (by omega) a b W hM.th.page h1)).mono ?_
  rintro e w' ⟨v, rfl, ho, hb⟩
  rcases id ho.2 with ⟨rfl, h0⟩ | ⟨g, cap, cur, rfl, _⟩
  · refine ⟨none, 0, ?_, ?_, hb⟩
    · rw [h0]
    · rw [h0]; exact ho
  · exact ⟨_, cap, rfl, ho, hb⟩
end
end Go.Proofs.Ytmmikolcipcldaa
