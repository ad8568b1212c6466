/-
  What is proved here: plain facts on bands (chapter 7): what is told of many points. Conditions: none beyond each theorem's own. No program in sight.
-/
namespace Go.Proofs.Ytjidfcogcgaclaa

structure Band where
  dead : Int
  quiet : Int
structure Held where
  has : Bool
  v : Int
  t : Int
structure Point where
  v : Int
  t : Int

def dist (a b : Int) : Int := if b < a then a - b else b - a

/-- is a point told? -/
def told (b : Band) (h : Held) (p : Point) : Bool :=
  !h.has || decide (max b.dead 0 < dist p.v h.v) || (decide (0 < b.quiet) && decide (h.t ≤ p.t) && decide (b.quiet ≤ dist p.t h.t))

/-- what is held behind a point. -/
def next (b : Band) (h : Held) (p : Point) : Held := if told b h p = true then ⟨true, p.v, p.t⟩ else h

def bandErr (b : Band) : Int := if b.dead < 0 ∨ 1099511627776 < b.dead ∨ b.quiet < 0 ∨ 1099511627776 < b.quiet then 26 else 0

theorem told_no {b : Band} {h : Held} {p : Point} (hh : h.has = false) : told b h p = true := by simp [told, hh]
theorem told_far {b : Band} {h : Held} {p : Point} (hd : max b.dead 0 < dist p.v h.v) : told b h p = true := by simp [told, hd]
theorem told_long {b : Band} {h : Held} {p : Point} (h1 : 0 < b.quiet) (h2 : h.t ≤ p.t) (h3 : b.quiet ≤ dist p.t h.t) : told b h p = true := by simp [told, h1, h2, h3]
theorem told_not {b : Band} {h : Held} {p : Point} (hh : h.has = true) (hd : ¬ max b.dead 0 < dist p.v h.v) (hq : ¬ (0 < b.quiet ∧ h.t ≤ p.t ∧ b.quiet ≤ dist p.t h.t)) : told b h p = false := by
  have h2 : (decide (0 < b.quiet) && decide (h.t ≤ p.t) && decide (b.quiet ≤ dist p.t h.t)) = false := by
    rw [Bool.eq_false_iff]
    intro c
    simp only [Bool.and_eq_true, decide_eq_true_eq] at c
    exact hq ⟨c.1.1, c.1.2, c.2⟩
  simp only [told, hh, h2, decide_eq_false hd]
  rfl
end Go.Proofs.Ytjidfcogcgaclaa
