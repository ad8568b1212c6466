/-
  What is proved here: plain facts on alarms (chapter 8). Conditions: none beyond each theorem's own. No program in sight.
-/
namespace Go.Proofs.Ytgkhdoklbbedpaa

structure Lim where
  ul : Bool
  uh : Bool
  la : Bool
  lo : Int
  hi : Int
  hy : Int
structure Alm where
  st : Int
  wt : Bool
deriving DecidableEq

def bnd (u : Bool) (v : Int) : Bool := decide (v = 0 ∨ (u = true ∧ -1099511627776 ≤ v ∧ v ≤ 1099511627776))
/-- may limits be? -/
def Lim.Ok (l : Lim) : Prop := 0 ≤ l.hy ∧ l.hy ≤ 1099511627776 ∧ bnd l.ul l.lo = true ∧ bnd l.uh l.hi = true ∧ (l.ul = true → l.uh = true → l.hy < l.hi - l.lo)
instance (l : Lim) : Decidable l.Ok := by unfold Lim.Ok; infer_instance
def Lim.err (l : Lim) : Int := if l.Ok then 0 else 27
def Lim.low (l : Lim) (v : Int) : Bool := l.ul && decide (v ≤ l.lo)
def Lim.high (l : Lim) (v : Int) : Bool := l.uh && decide (l.hi ≤ v)
def Lim.back1 (l : Lim) (v : Int) : Bool := !l.ul || decide (l.lo + l.hy < v)
def Lim.back2 (l : Lim) (v : Int) : Bool := !l.uh || decide (v < l.hi - l.hy)
def Alm.Fine (a : Alm) : Prop := 0 ≤ a.st ∧ a.st ≤ 2
instance (a : Alm) : Decidable a.Fine := by unfold Alm.Fine; infer_instance
/-- a step: the alarm, and what became of it. -/
def stepTo (l : Lim) (a : Alm) (v : Int) : Alm × Int :=
  if l.Ok ∧ a.Fine then
    (if l.low v = true then (if a.st = 1 then (a, 0) else (⟨1, true⟩, 1))
    else if l.high v = true then (if a.st = 2 then (a, 0) else (⟨2, true⟩, 2))
    else if ((a.st = 1 ∧ l.back1 v = true) ∨ (a.st = 2 ∧ l.back2 v = true)) ∧ ¬ (l.la = true ∧ a.wt = true) then (⟨0, a.wt⟩, 3)
    else (a, 0))
  else (a, 0)
def ackTo (a : Alm) : Alm := ⟨a.st, false⟩

theorem ok_bounds {l : Lim} (h : l.Ok) : -1099511627776 ≤ l.lo ∧ l.lo ≤ 1099511627776 ∧ -1099511627776 ≤ l.hi ∧ l.hi ≤ 1099511627776 := by
  obtain ⟨_, _, h3, h4, _⟩ := h
  unfold bnd at h3 h4
  rw [decide_eq_true_iff] at h3 h4
  omega
end Go.Proofs.Ytgkhdoklbbedpaa
