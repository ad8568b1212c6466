/-
  What is proved here: the pages of a tree share no memory; what a step that turns one page, or makes one, leaves of the others (chapter 15). Conditions: each theorem's own.
-/
import Derived.Test.YtmmikolcipcldaaTreeLaws
import Derived.Test.YtmmikolcipcldaaTreeIns
namespace Go.Proofs.Ytmmikolcipcldaa
open Go.RowKit Go.Deep

/-- a step that writes the blocks of L alone, and new ones. -/
structure Touch (w w' : World) (L : List Nat) : Prop where
  os : w'.os = w.os
  tape : w'.tape = w.tape
  output : w'.output = w.output
  size : w.heap.size ≤ w'.heap.size
  block : ∀ k, k < w.heap.size → k ∉ L → w'.heap[k]? = w.heap[k]?
theorem Touch.refl (w : World) (L : List Nat) : Touch w w L := ⟨rfl, rfl, rfl, Nat.le_refl _, fun _ _ _ => rfl⟩
theorem Touch.of_below {w w' : World} (h : Below w.heap.size w w') (L : List Nat) : Touch w w' L := ⟨h.os, h.tape, h.output, h.size, fun k hk _ => h.block k hk⟩
theorem Touch.of_grown {w w' : World} {g c : Nat} (h : w.grownBy w' (rowOf? g c)) (L : List Nat) (hg : 0 < c → g ∈ L) : Touch w w' L :=
  ⟨h.os, h.tape, h.output, h.size, fun k hk hL => h.block k hk (fun e => by
    unfold rowOf? at e
    split at e
    · cases e; exact hL (hg (by assumption))
    · cases e)⟩
theorem Touch.trans {a b c : World} {L : List Nat} (h : Touch a b L) (k : Touch b c L) : Touch a c L :=
  ⟨k.os.trans h.os, k.tape.trans h.tape, k.output.trans h.output, Nat.le_trans h.size k.size, fun i hi hL => (k.block i (Nat.lt_of_lt_of_le hi h.size) hL).trans (h.block i hi hL)⟩
theorem Touch.fresh {a b c : World} {L : List Nat} {g : Nat} (h : Touch a b L) (k : Touch b c (g :: L)) (hg : a.heap.size ≤ g) : Touch a c L :=
  ⟨k.os.trans h.os, k.tape.trans h.tape, k.output.trans h.output, Nat.le_trans h.size k.size, fun i hi hL => (k.block i (Nat.lt_of_lt_of_le hi h.size) (by simp only [List.mem_cons, not_or]; exact ⟨by omega, hL⟩)).trans (h.block i hi hL)⟩
theorem Touch.mono {a b : World} {L L' : List Nat} (h : Touch a b L) (hs : ∀ x ∈ L, x ∈ L') : Touch a b L' := ⟨h.os, h.tape, h.output, h.size, fun i hi hL => h.block i hi (fun h' => hL (hs i h'))⟩
theorem Touch.set (w : World) (p : Addr) (v : Value) (L : List Nat) (hp : p.block ∈ L) : Touch w (w.setCell p v) L :=
  ⟨rfl, rfl, rfl, by simp [World.setCell], fun k _ hL => Below.heap_setCell w p v k (fun e => hL (by rw [e]; exact hp))⟩
theorem Touch.drew (w : World) (L : List Nat) : Touch w w.drew L := ⟨rfl, rfl, rfl, Nat.le_refl _, fun _ _ _ => rfl⟩
theorem Touch.below {w0 w w' : World} {L : List Nat} {B : Nat} (h0 : Below B w0 w) (h : Touch w w' L) (hB : B ≤ w.heap.size) (hL : ∀ x ∈ L, B ≤ x) : Below B w0 w' :=
  ⟨h.os.trans h0.os, h.tape.trans h0.tape, h.output.trans h0.output, Nat.le_trans h0.size h.size, fun k hk => (h.block k (by omega) (fun h' => by have := hL k h'; omega)).trans (h0.block k hk)⟩
theorem Blk.touch {w w' : World} {L : List Nat} {g : Nat} {t : TypeId} {cs : Array Value} (h : Blk w g t cs) (k : Touch w w' L) (hg : g ∉ L) : Blk w' g t cs := (k.block g h.lt hg).trans h
theorem RowAt.touch {w w' : World} {L : List Nat} {g : Nat} {t : TypeId} {size n c : Nat} {xs : List Value} (h : RowAt w g t size n c xs) (k : Touch w w' L) (hg : 0 < c → g ∉ L) : RowAt w' g t size n c xs :=
  ⟨h.1, h.2.1, fun hc => by obtain ⟨cur, h1, h2, h3⟩ := h.2.2 hc; exact ⟨cur, (k.block g (h.lt hc) (hg hc)).trans h1, h2, h3⟩⟩

/-- the pages of a tree, none below block B, share no memory. -/
structure TH (B : Nat) (w : World) (M : Nat → Option Pg) : Prop where
  page : ∀ {p P}, M p = some P → PageAt w p P
  low : ∀ {p P}, M p = some P → B ≤ p ∧ (0 < P.ck → B ≤ P.gk) ∧ (0 < P.cv → B ≤ P.gv) ∧ (0 < P.cc → B ≤ P.gc)
  sepk : ∀ {p q P Q}, M p = some P → M q = some Q → p ≠ q → 0 < P.ck → 0 < Q.ck → P.gk ≠ Q.gk
  sepv : ∀ {p q P Q}, M p = some P → M q = some Q → p ≠ q → 0 < P.cv → 0 < Q.cv → P.gv ≠ Q.gv
  sepc : ∀ {p q P Q}, M p = some P → M q = some Q → p ≠ q → 0 < P.cc → 0 < Q.cc → P.gc ≠ Q.gc
theorem TH.on {B : Nat} {w w' : World} {M : Nat → Option Pg} (h : TH B w M) (hb : Below w.heap.size w w') : TH B w' M :=
  ⟨fun hp => (h.page hp).on hb, h.low, h.sepk, h.sepv, h.sepc⟩
theorem TH.none (B : Nat) (w : World) : TH B w (fun _ => none) := ⟨fun h => (by cases h), fun h => (by cases h), fun h => (by cases h), fun h => (by cases h), fun h => (by cases h)⟩
/-- one page is another. -/
def upd (M : Nat → Option Pg) (p : Nat) (P : Pg) : Nat → Option Pg := fun q => if q = p then some P else M q
theorem upd_same (M : Nat → Option Pg) (p : Nat) (P : Pg) : upd M p P p = some P := by unfold upd; rw [if_pos rfl]
theorem upd_other (M : Nat → Option Pg) {p q : Nat} (P : Pg) (h : q ≠ p) : upd M p P q = M q := by unfold upd; rw [if_neg h]

theorem blk_type {w : World} {g : Nat} {t t' : TypeId} {a b : Array Value} {f f' : Nat × Nat} (h1 : w.heap[g]? = some (Obj.cells a t f)) (h2 : w.heap[g]? = some (Obj.cells b t' f')) : t = t' := by
  rw [h1] at h2
  cases h2
  rfl
theorem RowAt.obj {w : World} {g : Nat} {t : TypeId} {size n c : Nat} {xs : List Value} (h : RowAt w g t size n c xs) (hc : 0 < c) : ∃ cur, w.heap[g]? = some (Obj.cells cur t (0, 0)) := by
  obtain ⟨cur, h1, _, _⟩ := h.2.2 hc
  exact ⟨cur, h1⟩
/-- a page's blocks. -/
def Pg.blocks (P : Pg) : List Nat := (if 0 < P.ck then [P.gk] else []) ++ ((if 0 < P.cv then [P.gv] else []) ++ (if 0 < P.cc then [P.gc] else []))
theorem Pg.mem_blocks (P : Pg) (x : Nat) : x ∈ P.blocks ↔ (0 < P.ck ∧ x = P.gk) ∨ (0 < P.cv ∧ x = P.gv) ∨ (0 < P.cc ∧ x = P.gc) := by
  unfold Pg.blocks
  by_cases h1 : 0 < P.ck <;> by_cases h2 : 0 < P.cv <;> by_cases h3 : 0 < P.cc <;> simp [h1, h2, h3]

section
variable {B : Nat} {w w' : World} {M : Nat → Option Pg} {p q : Nat} {P Q P' : Pg}
theorem TH.apart (h : TH B w M) (hp : M p = some P) (hq : M q = some Q) (hne : q ≠ p) : q ∉ p :: P.blocks ∧ (0 < Q.ck → Q.gk ∉ p :: P.blocks) ∧ (0 < Q.cv → Q.gv ∉ p :: P.blocks) ∧ (0 < Q.cc → Q.gc ∉ p :: P.blocks) := by
  have hP := h.page hp
  have hQ := h.page hq
  refine ⟨fun hm => ?_, fun hc hm => ?_, fun hc hm => ?_, fun hc hm => ?_⟩ <;> rw [List.mem_cons, Pg.mem_blocks] at hm
  · rcases hm with e | ⟨c, e⟩ | ⟨c, e⟩ | ⟨c, e⟩
    · exact hne e
    · obtain ⟨cur, ho⟩ := hP.keys.obj c
      rw [← e] at ho
      exact absurd (blk_type hQ.blk ho) (by decide)
    · obtain ⟨cur, ho⟩ := hP.vals.obj c
      rw [← e] at ho
      exact absurd (blk_type hQ.blk ho) (by decide)
    · obtain ⟨cur, ho⟩ := hP.kids.obj c
      rw [← e] at ho
      exact absurd (blk_type hQ.blk ho) (by decide)
  · obtain ⟨cu, hq'⟩ := hQ.keys.obj hc
    rcases hm with e | ⟨c, e⟩ | ⟨c, e⟩ | ⟨c, e⟩
    · rw [e] at hq'
      exact absurd (blk_type hq' hP.blk) (by decide)
    · exact h.sepk hq hp hne hc c e
    · obtain ⟨cur, ho⟩ := hP.vals.obj c
      rw [← e] at ho
      exact absurd (blk_type hq' ho) (by decide)
    · obtain ⟨cur, ho⟩ := hP.kids.obj c
      rw [← e] at ho
      exact absurd (blk_type hq' ho) (by decide)
  · obtain ⟨cu, hq'⟩ := hQ.vals.obj hc
    rcases hm with e | ⟨c, e⟩ | ⟨c, e⟩ | ⟨c, e⟩
    · rw [e] at hq'
      exact absurd (blk_type hq' hP.blk) (by decide)
    · obtain ⟨cur, ho⟩ := hP.keys.obj c
      rw [← e] at ho
      exact absurd (blk_type hq' ho) (by decide)
    · exact h.sepv hq hp hne hc c e
    · obtain ⟨cur, ho⟩ := hP.kids.obj c
      rw [← e] at ho
      exact absurd (blk_type hq' ho) (by decide)
  · obtain ⟨cu, hq'⟩ := hQ.kids.obj hc
    rcases hm with e | ⟨c, e⟩ | ⟨c, e⟩ | ⟨c, e⟩
    · rw [e] at hq'
      exact absurd (blk_type hq' hP.blk) (by decide)
    · obtain ⟨cur, ho⟩ := hP.keys.obj c
      rw [← e] at ho
      exact absurd (blk_type hq' ho) (by decide)
    · obtain ⟨cur, ho⟩ := hP.vals.obj c
      rw [← e] at ho
      exact absurd (blk_type hq' ho) (by decide)
    · exact h.sepc hq hp hne hc c e
theorem PageAt.touch {L : List Nat} (h : PageAt w p P) (k : Touch w w' L) (h0 : p ∉ L) (h1 : 0 < P.ck → P.gk ∉ L) (h2 : 0 < P.cv → P.gv ∉ L) (h3 : 0 < P.cc → P.gc ∉ L) : PageAt w' p P :=
  ⟨h.blk.touch k h0, h.keys.touch k h1, h.vals.touch k h2, h.kids.touch k h3⟩
/-- a list's block is the old one, or new. -/
def Held (w : World) (g c g' c' : Nat) : Prop := 0 < c' → (0 < c ∧ g' = g) ∨ w.heap.size ≤ g'
/-- one page is turned. -/
theorem TH.turn (h : TH B w M) (hB : B ≤ w.heap.size) (hp : M p = some P) (k : Touch w w' (p :: P.blocks)) (hP' : PageAt w' p P') (h1 : Held w P.gk P.ck P'.gk P'.ck) (h2 : Held w P.gv P.cv P'.gv P'.cv) (h3 : Held w P.gc P.cc P'.gc P'.cc) : TH B w' (upd M p P') := by
  have hlow := h.low hp
  have old : ∀ {q Q}, upd M p P' q = some Q → (q = p ∧ Q = P') ∨ (q ≠ p ∧ M q = some Q) := fun {q Q} hq => by
    by_cases e : q = p
    · rw [e, upd_same] at hq; cases hq; exact .inl ⟨e, rfl⟩
    · rw [upd_other _ _ e] at hq; exact .inr ⟨e, hq⟩
  refine ⟨fun hq => ?_, fun hq => ?_, fun ha hb hne c1 c2 => ?_, fun ha hb hne c1 c2 => ?_, fun ha hb hne c1 c2 => ?_⟩
  · rcases old hq with ⟨rfl, rfl⟩ | ⟨hne, hq⟩
    · exact hP'
    · obtain ⟨a0, a1, a2, a3⟩ := h.apart hp hq hne
      exact (h.page hq).touch k a0 a1 a2 a3
  · rcases old hq with ⟨rfl, rfl⟩ | ⟨hne, hq⟩
    · refine ⟨hlow.1, fun c => ?_, fun c => ?_, fun c => ?_⟩
      · rcases h1 c with ⟨a, e⟩ | a
        · rw [e]; exact hlow.2.1 a
        · omega
      · rcases h2 c with ⟨a, e⟩ | a
        · rw [e]; exact hlow.2.2.1 a
        · omega
      · rcases h3 c with ⟨a, e⟩ | a
        · rw [e]; exact hlow.2.2.2 a
        · omega
    · exact h.low hq
  · rcases old ha with ⟨rfl, rfl⟩ | ⟨hna, ha'⟩ <;> rcases old hb with ⟨rfl, rfl⟩ | ⟨hnb, hb'⟩
    · exact absurd rfl hne
    · rcases h1 c1 with ⟨a, e⟩ | a
      · rw [e]; exact h.sepk hp hb' hne a c2
      · have := (h.page hb').keys.lt c2; omega
    · rcases h1 c2 with ⟨a, e⟩ | a
      · rw [e]; exact h.sepk ha' hp hne c1 a
      · have := (h.page ha').keys.lt c1; omega
    · exact h.sepk ha' hb' hne c1 c2
  · rcases old ha with ⟨rfl, rfl⟩ | ⟨hna, ha'⟩ <;> rcases old hb with ⟨rfl, rfl⟩ | ⟨hnb, hb'⟩
    · exact absurd rfl hne
    · rcases h2 c1 with ⟨a, e⟩ | a
      · rw [e]; exact h.sepv hp hb' hne a c2
      · have := (h.page hb').vals.lt c2; omega
    · rcases h2 c2 with ⟨a, e⟩ | a
      · rw [e]; exact h.sepv ha' hp hne c1 a
      · have := (h.page ha').vals.lt c1; omega
    · exact h.sepv ha' hb' hne c1 c2
  · rcases old ha with ⟨rfl, rfl⟩ | ⟨hna, ha'⟩ <;> rcases old hb with ⟨rfl, rfl⟩ | ⟨hnb, hb'⟩
    · exact absurd rfl hne
    · rcases h3 c1 with ⟨a, e⟩ | a
      · rw [e]; exact h.sepc hp hb' hne a c2
      · have := (h.page hb').kids.lt c2; omega
    · rcases h3 c2 with ⟨a, e⟩ | a
      · rw [e]; exact h.sepc ha' hp hne c1 a
      · have := (h.page ha').kids.lt c1; omega
    · exact h.sepc ha' hb' hne c1 c2
/-- a page is made. -/
theorem TH.make (h : TH B w M) (hB : B ≤ w.heap.size) (k : Below w.heap.size w w') (hp : w.heap.size ≤ p) (hP' : PageAt w' p P') (h1 : 0 < P'.ck → w.heap.size ≤ P'.gk) (h2 : 0 < P'.cv → w.heap.size ≤ P'.gv) (h3 : 0 < P'.cc → w.heap.size ≤ P'.gc) : TH B w' (upd M p P') := by
  have old : ∀ {q Q}, upd M p P' q = some Q → (q = p ∧ Q = P') ∨ (q ≠ p ∧ M q = some Q) := fun {q Q} hq => by
    by_cases e : q = p
    · rw [e, upd_same] at hq; cases hq; exact .inl ⟨e, rfl⟩
    · rw [upd_other _ _ e] at hq; exact .inr ⟨e, hq⟩
  refine ⟨fun hq => ?_, fun hq => ?_, fun ha hb hne c1 c2 => ?_, fun ha hb hne c1 c2 => ?_, fun ha hb hne c1 c2 => ?_⟩
  · rcases old hq with ⟨rfl, rfl⟩ | ⟨hne, hq⟩
    · exact hP'
    · exact (h.page hq).on k
  · rcases old hq with ⟨rfl, rfl⟩ | ⟨hne, hq⟩
    · exact ⟨by omega, fun c => by have := h1 c; omega, fun c => by have := h2 c; omega, fun c => by have := h3 c; omega⟩
    · exact h.low hq
  · rcases old ha with ⟨rfl, rfl⟩ | ⟨hna, ha'⟩ <;> rcases old hb with ⟨rfl, rfl⟩ | ⟨hnb, hb'⟩
    · exact absurd rfl hne
    · have := (h.page hb').keys.lt c2; have := h1 c1; omega
    · have := (h.page ha').keys.lt c1; have := h1 c2; omega
    · exact h.sepk ha' hb' hne c1 c2
  · rcases old ha with ⟨rfl, rfl⟩ | ⟨hna, ha'⟩ <;> rcases old hb with ⟨rfl, rfl⟩ | ⟨hnb, hb'⟩
    · exact absurd rfl hne
    · have := (h.page hb').vals.lt c2; have := h2 c1; omega
    · have := (h.page ha').vals.lt c1; have := h2 c2; omega
    · exact h.sepv ha' hb' hne c1 c2
  · rcases old ha with ⟨rfl, rfl⟩ | ⟨hna, ha'⟩ <;> rcases old hb with ⟨rfl, rfl⟩ | ⟨hnb, hb'⟩
    · exact absurd rfl hne
    · have := (h.page hb').kids.lt c2; have := h3 c1; omega
    · have := (h.page ha').kids.lt c1; have := h3 c2; omega
    · exact h.sepc ha' hb' hne c1 c2
theorem TH.blocks_low (h : TH B w M) (hp : M p = some P) : ∀ x ∈ p :: P.blocks, B ≤ x := by
  obtain ⟨a, b, c, d⟩ := h.low hp
  intro x hx
  rw [List.mem_cons, Pg.mem_blocks] at hx
  rcases hx with rfl | ⟨h1, rfl⟩ | ⟨h1, rfl⟩ | ⟨h1, rfl⟩
  · exact a
  · exact b h1
  · exact c h1
  · exact d h1
end
end Go.Proofs.Ytmmikolcipcldaa
