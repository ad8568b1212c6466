/-
  What is proved here: plain facts on slots (chapter 17): what a poll makes of a slot, which slot is due, when the next one is. Conditions: none beyond each theorem's own. No program in sight.
-/
namespace Go.Proofs.Ytaccbkmlkmdmpaa

/-- A slot: its beat, its next time, its failures. -/
structure Slot where
  e : Int
  n : Int
  f : Int
deriving DecidableEq

def Slot.Ok (s : Slot) : Prop := 1 ≤ s.e ∧ s.e ≤ 1048576 ∧ 0 ≤ s.n ∧ s.n ≤ 2199023255552 ∧ 0 ≤ s.f ∧ s.f ≤ 10
instance (s : Slot) : Decidable s.Ok := inferInstanceAs (Decidable (_ ∧ _))

/-- behind a poll that went well. -/
def Slot.well (s : Slot) (now : Int) : Slot := ⟨s.e, s.n + s.e * (1 + (max 0 (now - s.n)) / s.e), 0⟩
/-- how long one waits that has failed so often. -/
def waitOf (e f : Int) : Int := if f ≤ 0 then e else if f = 1 then 2 * e else if f = 2 then 4 * e else if f = 3 then 8 * e else if f = 4 then 16 * e else 32 * e
/-- behind a poll that failed. -/
def Slot.ill (s : Slot) (now : Int) : Slot := ⟨s.e, now + waitOf s.e (min (s.f + 1) 10), min (s.f + 1) 10⟩

def TimeOk (now : Int) : Prop := 0 ≤ now ∧ now ≤ 1099511627776
instance (t : Int) : Decidable (TimeOk t) := inferInstanceAs (Decidable (_ ∧ _))

def Slot.done (s : Slot) (now : Int) (ok : Bool) : Slot := if s.Ok ∧ TimeOk now then (if ok then s.well now else s.ill now) else s

/-- the place of the slot that is due, of the first k. -/
def dueTo (L : List Slot) (now : Int) : Nat → Int
  | 0 => -1
  | k + 1 => if (L.getD k ⟨0, 0, 0⟩).n ≤ now ∧ (dueTo L now k < 0 ∨ (L.getD k ⟨0, 0, 0⟩).n < (L.getD (dueTo L now k).toNat ⟨0, 0, 0⟩).n) then (k : Int) else dueTo L now k

/-- the least next time of the first k. -/
def wakeTo (L : List Slot) : Nat → Int
  | 0 => -1
  | k + 1 => if k = 0 then (L.getD 0 ⟨0, 0, 0⟩).n else min (wakeTo L k) (L.getD k ⟨0, 0, 0⟩).n

theorem dueTo_bounds (L : List Slot) (now : Int) : ∀ k, -1 ≤ dueTo L now k ∧ dueTo L now k < k
  | 0 => by simp [dueTo]
  | k + 1 => by
    have h := dueTo_bounds L now k
    unfold dueTo
    split <;> omega

theorem dueTo_succ (L : List Slot) (now : Int) (k : Nat) : dueTo L now (k + 1) = if (L.getD k ⟨0, 0, 0⟩).n ≤ now ∧ (dueTo L now k < 0 ∨ (L.getD k ⟨0, 0, 0⟩).n < (L.getD (dueTo L now k).toNat ⟨0, 0, 0⟩).n) then (k : Int) else dueTo L now k := rfl
theorem wakeTo_succ (L : List Slot) (k : Nat) : wakeTo L (k + 1) = if k = 0 then (L.getD 0 ⟨0, 0, 0⟩).n else min (wakeTo L k) (L.getD k ⟨0, 0, 0⟩).n := rfl
theorem due_no {L : List Slot} {now : Int} {k : Nat} (h : ¬ (L.getD k ⟨0, 0, 0⟩).n ≤ now) : dueTo L now (k + 1) = dueTo L now k := by
  rw [dueTo_succ, if_neg (fun c => h c.1)]
theorem due_first {L : List Slot} {now : Int} {k : Nat} (h : (L.getD k ⟨0, 0, 0⟩).n ≤ now) (h2 : dueTo L now k < 0) : dueTo L now (k + 1) = (k : Int) := by
  rw [dueTo_succ, if_pos ⟨h, .inl h2⟩]
theorem due_less {L : List Slot} {now : Int} {k j : Nat} (h : (L.getD k ⟨0, 0, 0⟩).n ≤ now) (h2 : dueTo L now k = (j : Int)) (h3 : (L.getD k ⟨0, 0, 0⟩).n < (L.getD j ⟨0, 0, 0⟩).n) : dueTo L now (k + 1) = (k : Int) := by
  rw [dueTo_succ, if_pos ⟨h, .inr (by rw [h2]; exact h3)⟩]
theorem due_more {L : List Slot} {now : Int} {k j : Nat} (h2 : dueTo L now k = (j : Int)) (h3 : ¬ (L.getD k ⟨0, 0, 0⟩).n < (L.getD j ⟨0, 0, 0⟩).n) : dueTo L now (k + 1) = (j : Int) := by
  rw [dueTo_succ, if_neg (fun c => by
    rcases c.2 with c | c
    · rw [h2] at c; omega
    · rw [h2] at c; exact h3 c), h2]
theorem wake_first (L : List Slot) : wakeTo L 1 = (L.getD 0 ⟨0, 0, 0⟩).n := by simp [wakeTo]
theorem wake_step (L : List Slot) {k : Nat} (h : 0 < k) : wakeTo L (k + 1) = min (wakeTo L k) (L.getD k ⟨0, 0, 0⟩).n := by
  rw [wakeTo_succ, if_neg (by omega)]

end Go.Proofs.Ytaccbkmlkmdmpaa
