/-
  What is proved here: nothing of the program but that a list of flags is made: what the entries of pages are that are given by number (chapter 15). Conditions: each theorem's own.
-/
import Derived.Test.YtmmikolcipcldaaTreeLoop4
import Derived.Test.YtmmikolcipcldaaTreeSmall
import Derived.Test.YtmmikolcipcldaaTreeKn
namespace Go.Proofs.Ytmmikolcipcldaa
open Go.RowKit Go.Deep

instance (es : List En) : Decidable (Up es) := inferInstanceAs (Decidable (es.Pairwise (fun a b => bel a.1 b.1 = true)))
/-- the entries that pages have, where they are a tree. -/
def ofE (d : Nat) (l : List NdR) : Option (List En) := match vis l d (l.length + 1) 0 1 (List.replicate l.length false) 0 with
  | none => none
  | some r => if r.seen.all id = true ∧ Up r.es then some r.es else none
theorem ofE_some {d : Nat} {l : List NdR} {r : Vs} (h : vis l d (l.length + 1) 0 1 (List.replicate l.length false) 0 = some r) (h1 : r.seen.all id = true) (h2 : Up r.es) : ofE d l = some r.es := by
  unfold ofE
  rw [h]
  exact if_pos ⟨h1, h2⟩
theorem ofE_none {d : Nat} {l : List NdR} (h : ∀ r, vis l d (l.length + 1) 0 1 (List.replicate l.length false) 0 = some r → ¬ (r.seen.all id = true ∧ Up r.es)) : ofE d l = none := by
  unfold ofE
  split
  · rfl
  · rename_i r hr
    exact if_neg (h r hr)
theorem infoBool : (Try.prog.info? 4).map (fun i => (i.zero, i.size, i.bytes)) = some (some (.bool false), 1, 1) := by kernel_rfl
theorem made_bools (n : Nat) : madeCells #[Value.bool false] n = ((List.replicate n false).map Value.bool).toArray := by
  apply Array.ext
  · simp [size_madeCells]
  · intro i h1 h2
    have hi : i < n := by simpa [size_madeCells] using h1
    simp [madeCells, Nat.mod_one]
theorem run_make_bools (w : World) (n : Nat) (hn : n ≤ 1000000) :
    (Instr.makeSlice 85 (.int .i64 (n : Int)) (.int .i64 (n : Int))).run Try.prog w = .ok (.slice (some ⟨w.heap.size, 0, none⟩) n n) (w.alloc (.cells ((List.replicate n false).map Value.bool).toArray 4)) := by
  obtain ⟨i0, hi0, hz0, hz1, hz2⟩ := info_parts infoBool
  have hr := run_make_rowN (P := Try.prog) 85 4 i0 _ Try.underlying85 hi0 hz0 .i64 .i64 n n (Nat.le_refl _) (by rw [hz2]; omega) (by omega) w
  rw [hz1, Nat.mul_one] at hr
  rw [hr, show (Value.bool false).cells = #[Value.bool false] from rfl, made_bools]
/-- a builder that is new. -/
def bd0 (n : Nat) : BdS := ⟨List.replicate n false, 0, k0, 0, false⟩
theorem unseen_new (n : Nat) : unseen (List.replicate n false) = n := by
  unfold unseen
  rw [List.countP_replicate]
  rfl
/-- were all of the first ones seen? -/
def allTo (s : List Bool) (i : Nat) : Bool := (s.take i).all id
theorem allTo_succ {s : List Bool} {i : Nat} (hi : i < s.length) : allTo s (i + 1) = (allTo s i && s.getD i true) := by
  unfold allTo
  rw [List.take_succ_eq_append_getElem hi, List.all_append, List.getD_eq_getElem?_getD, List.getElem?_eq_getElem hi]
  simp
theorem allTo_all (s : List Bool) : allTo s s.length = s.all id := by unfold allTo; rw [List.take_length]
theorem TH.down {B B' : Nat} {w : World} {M : Nat → Option Pg} (h : TH B w M) (hB : B' ≤ B) : TH B' w M :=
  ⟨h.page, fun hp => ⟨Nat.le_trans hB (h.low hp).1, fun hc => Nat.le_trans hB ((h.low hp).2.1 hc), fun hc => Nat.le_trans hB ((h.low hp).2.2.1 hc), fun hc => Nat.le_trans hB ((h.low hp).2.2.2 hc)⟩, h.sepk, h.sepv, h.sepc⟩
/-- what stands behind the root's making. -/
structure Bu (w : World) (B tr d bb sb : Nat) (lv : Value) (l : List NdR) (S : BdS) (X : World) : Prop where
  bd : BdAt X bb sb d lv S
  low : Below w.heap.size w X
  seen : S.seen.length = l.length
  b0 : w.heap.size ≤ tr
  b1 : w.heap.size ≤ bb
  b2 : tr < B
  b3 : bb < B
  b4 : B ≤ X.heap.size
  tb : tr ≠ bb
  box : ∃ u, Blk X tr 71 #[.int .i64 d, u, .int .i64 0]
  tree : (S.wrong = true ∧ ofE d l = none) ∨ ∃ q r M h fs, Blk X tr 71 #[.int .i64 d, .pointer (some ⟨q, 0, none⟩), .int .i64 0] ∧ vis l d (l.length + 1) 0 1 (List.replicate l.length false) 0 = some r ∧ S.seen = r.seen ∧ S.count = r.es.length ∧ S.wrong = false ∧ Up r.es ∧ TH B X M ∧ Tr d M h 1 q r.es fs ∧ fs.Nodup
section
variable {w W X X' : World} {B tr d bb sb : Nat} {lv : Value} {l : List NdR} {S : BdS}
/-- the root was made. -/
theorem PgOut.bu {e : Ending} (h : PgOut B (fun _ => Option.none) bb sb d lv l (l.length + 1) 0 1 (bd0 l.length) W e X) (hin : PgIn w B (fun _ => Option.none) bb sb d lv l (bd0 l.length) W) (h0 : w.heap.size ≤ tr) (h2 : tr < B) (htb : tr ≠ bb) (hts : tr ≠ sb) (ht : Blk W tr 71 #[.int .i64 d, .pointer Option.none, .int .i64 0]) :
    ∃ res, e = .returned (.pointer res) ∧ X.cell? ⟨tr, 1, none⟩ = some (.pointer Option.none) ∧ X.frozen? ⟨tr, 1, none⟩ = false ∧ ∃ S, Bu w B tr d bb sb lv l S (X.setCell ⟨tr, 1, none⟩ (.pointer res)) := by
  have hl := fun {M' : Nat → Option Pg} (hf : Fr [bb, sb] (fun _ => Option.none) W M' X) => hf.low hin.low hin.th (Nat.le_of_lt (Nat.lt_of_le_of_lt hin.b1 hin.b3)) (fun y hy => by
    simp only [List.mem_cons, List.not_mem_nil, or_false] at hy
    rcases hy with rfl | rfl
    · exact hin.b1
    · exact hin.b2)
  have htL : tr ∉ [bb, sb] := by simp [htb, hts]
  have hb := fun {M' : Nat → Option Pg} (hf : Fr [bb, sb] (fun _ => Option.none) W M' X) => hf.blk ht htL (hin.th.free_low h2)
  have hk := fun (v : Value) => Touch.set X ⟨tr, 1, none⟩ v [tr] (by simp)
  have nb : bb ∉ [tr] := by simp [Ne.symm htb]
  have ns : sb ∉ [tr] := by simp [Ne.symm hts]
  rcases h with ⟨res, S', rfl, hw, hbd, hs, _, hth, hfr, hno⟩ | ⟨r, p, M', hh, fs, rfl, hv, hw, hbd, hs, hth, hfr, _, hT, hnd, _, _⟩
  · refine ⟨res, rfl, (hb hfr).cell 1, (hb hfr).frozen 1, S', hbd.touch (hk _) nb ns, (hk _).below (hl hfr) (Nat.le_trans hin.low.size hfr.size) (fun y hy => by rw [List.mem_singleton.1 hy]; exact h0), hs, h0, hin.b1, h2, hin.b3, Nat.le_trans hin.size (Nat.le_trans hfr.size (hk _).size), htb, ⟨_, (hb hfr).set_ 1 _⟩, .inl ⟨hw, ofE_none (fun r hr h => ?_)⟩⟩
    have h1 := hno r hr
    have h2 := (BdS.takes_up r.es (bd0 l.length) rfl).2 ⟨h.2, fun h => absurd h (Nat.lt_irrefl 0)⟩
    rw [h1] at h2
    cases h2
  · have h1 := (BdS.takes_up r.es (bd0 l.length) rfl).1 hw
    have h3 := BdS.takes_same r.es (bd0 l.length)
    exact ⟨_, rfl, (hb hfr).cell 1, (hb hfr).frozen 1, _, hbd.touch (hk _) nb ns, (hk _).below (hl hfr) (Nat.le_trans hin.low.size hfr.size) (fun y hy => by rw [List.mem_singleton.1 hy]; exact h0), hs, h0, hin.b1, h2, hin.b3, Nat.le_trans hin.size (Nat.le_trans hfr.size (hk _).size), htb, ⟨_, (hb hfr).set_ 1 _⟩,
      .inr ⟨p, r, M', hh, fs, (hb hfr).set_ 1 _, hv, rfl, by show ((bd0 l.length).takes r.es).count = _; rw [h3.2.2]; show 0 + _ = _; omega, hw, h1.1, hth.far (hk _) (fun y hy => by rw [List.mem_singleton.1 hy]; exact h2), hT, hnd⟩⟩
/-- a builder whose fault is told. -/
def BdS.wr (S : BdS) (i : Nat) : BdS := { S with wrong := S.wrong || !allTo S.seen i }
theorem BdS.wr_zero (S : BdS) : S.wr 0 = S := by unfold BdS.wr allTo; simp
theorem BdAt.setWr {q : Bool} (h : BdAt X bb sb d lv S) : BdAt (X.setCell ⟨bb, 7, none⟩ (.bool q)) bb sb d lv { S with wrong := q } :=
  ⟨h.blk.set_ 7 (.bool q), h.row.touch (Touch.set _ ⟨bb, 7, none⟩ _ [bb] (by simp)) (by rw [List.mem_singleton]; exact h.ne)⟩
theorem BdAt.flagAt {a : Nat} (h : BdAt X bb sb d lv S) (ha : a < S.seen.length) : X.cell? ⟨sb, a, none⟩ = some (.bool (S.seen.getD a true)) := by
  rw [h.row.cell a]
  simp only [List.getElem?_toArray, List.getElem?_map]
  rw [List.getElem?_eq_getElem ha, List.getD_eq_getElem?_getD, List.getElem?_eq_getElem ha]
  rfl
theorem BdS.wr_succ {k : Nat} (hk : k < S.seen.length) : ({ S.wr k with wrong := (S.wr k).wrong || !S.seen.getD k true } : BdS) = S.wr (k + 1) := by
  unfold BdS.wr
  simp only
  rw [allTo_succ hk]
  congr 1
  cases S.wrong <;> cases allTo S.seen k <;> cases S.seen.getD k true <;> rfl
/-- the flags were gone through: something was wrong. -/
theorem Bu.no (h : Bu w B tr d bb sb lv l S X) (hT : Touch X X' [bb]) (hw : (S.wr l.length).wrong = true) : ofE d l = none ∧ Below w.heap.size w X' := by
  refine ⟨?_, hT.below h.low h.low.size (fun y hy => by rw [List.mem_singleton.1 hy]; exact h.b1)⟩
  rcases h.tree with ⟨_, h2⟩ | ⟨q, r, M, hh, fs, _, hv, hs, _, hw2, _⟩
  · exact h2
  · refine ofE_none (fun r' hr' hh => ?_)
    rw [hv] at hr'
    cases hr'
    have h1 : (S.wrong || !allTo S.seen l.length) = true := hw
    rw [hw2, Bool.false_or, ← h.seen, allTo_all, hs, hh.1] at h1
    cases h1
/-- nothing was. -/
theorem Bu.yes (h : Bu w B tr d bb sb lv l S X) (hT : Touch X X' [bb]) (hw : (S.wr l.length).wrong = false) : ∃ es, ofE d l = some es ∧ S.count = es.length ∧ X'.cell? ⟨tr, 2, none⟩ = some (.int .i64 0) ∧ X'.frozen? ⟨tr, 2, none⟩ = false ∧ ∀ u, u = .int .i64 es.length → Has w.heap.size w tr d es (X'.setCell ⟨tr, 2, none⟩ u) := by
  have h1 : (S.wrong || !allTo S.seen l.length) = false := hw
  rw [Bool.or_eq_false_iff] at h1
  rcases h.tree with ⟨h2, _⟩ | ⟨q, r, M, hh, fs, hb, hv, hs, hc, hw2, hup, hth, hTr, hnd⟩
  · rw [h2] at h1
    cases h1.1
  · have h3 := h1.2
    rw [← h.seen, allTo_all, hs] at h3
    have hb' := hb.touch hT (by simp [h.tb])
    have hk := fun u => Touch.set X' ⟨tr, 2, none⟩ u [tr] (by simp)
    refine ⟨r.es, ofE_some hv (by simpa using h3) hup, hc, hb'.cell 2, hb'.frozen 2, fun u hu => ⟨⟨M, ?_⟩, ?_, h.b0⟩⟩
    · have hth2 := (hth.far hT (fun y hy => by rw [List.mem_singleton.1 hy]; exact h.b3)).far (hk u) (fun y hy => by rw [List.mem_singleton.1 hy]; exact h.b2)
      have hsz := h.b4
      have hbt := h.b2
      have hs1 := hT.size
      have hs2 := (hk u).size
      refine ⟨hth2.down (by omega), by omega, by omega, hup, some q, ?_, .inr ⟨q, hh, fs, rfl, hTr, hnd⟩⟩
      subst hu
      exact hb'.set_ 2 _
    · exact (hk u).below (hT.below h.low h.low.size (fun y hy => by rw [List.mem_singleton.1 hy]; exact h.b1)) (Nat.le_trans h.low.size hT.size) (fun y hy => by rw [List.mem_singleton.1 hy]; exact h.b0)
end
end Go.Proofs.Ytmmikolcipcldaa
