/-
  What is proved here: what is wrong with a record, in plain numbers (chapter 11). Conditions: none.
-/
import Derived.Test.YtognidoohinipaaRName
namespace Go.Proofs.Ytognidoohinipaa
open Go.RowKit Go.Deep

structure Rec where
  k : Int
  t : Int
  g : ByteArray
  v : Int
  i : Int
def Rec.cells (r : Rec) : Array Value := #[.int .i64 r.k, .int .i64 r.t, .string r.g, .int .i64 r.v, .int .i64 r.i]
def I64 (x : Int) : Prop := -9223372036854775808 ≤ x ∧ x ≤ 9223372036854775807
def tagK (k : Int) : Prop := k = 1 ∨ k = 2
def namK (k : Int) : Prop := k = 5 ∨ k = 6
def loK (k : Int) : Int := if k = 1 then -1099511627776 else if k = 6 then 0 else 1
def hiK (k : Int) : Int := if k = 2 then 4 else if k = 6 then 255 else 1099511627776
instance (k : Int) : Decidable (tagK k) := by unfold tagK; infer_instance
instance (k : Int) : Decidable (namK k) := by unfold namK; infer_instance
def Within (x a b : Int) : Prop := a ≤ x ∧ x ≤ b
instance (x a b : Int) : Decidable (Within x a b) := by unfold Within; infer_instance
def FieldBad (r : Rec) : Prop := (¬ tagK r.k ∧ r.g.size ≠ 0) ∨ (r.k = 5 ∧ r.v ≠ 0) ∨ (¬ namK r.k ∧ r.i ≠ 0)
def RangeBad (r : Rec) : Prop := (r.k ≠ 5 ∧ ¬ Within r.v (loK r.k) (hiK r.k)) ∨ (namK r.k ∧ ¬ Within r.i 1 1099511627776)
instance (r : Rec) : Decidable (FieldBad r) := by unfold FieldBad; infer_instance
instance (r : Rec) : Decidable (RangeBad r) := by unfold RangeBad; infer_instance
def recErr (r : Rec) : Int :=
  if ¬ Within r.k 1 6 then 28 else if FieldBad r then 23 else if ¬ Within r.t 0 1099511627776 then 3 else if tagK r.k ∧ nameB r.g = false then 8 else if RangeBad r then 3 else 0
theorem err_kind {r : Rec} (h : ¬ Within r.k 1 6) : recErr r = 28 := by unfold recErr; rw [if_pos h]
theorem err_field {r : Rec} (h : Within r.k 1 6) (h1 : FieldBad r) : recErr r = 23 := by unfold recErr; rw [if_neg (fun e => e h), if_pos h1]
theorem err_time {r : Rec} (h : Within r.k 1 6) (h1 : ¬ FieldBad r) (h2 : ¬ Within r.t 0 1099511627776) : recErr r = 3 := by unfold recErr; rw [if_neg (fun e => e h), if_neg h1, if_pos h2]
theorem err_name {r : Rec} (h : Within r.k 1 6) (h1 : ¬ FieldBad r) (h2 : Within r.t 0 1099511627776) (h3 : tagK r.k) (h4 : nameB r.g = false) : recErr r = 8 := by unfold recErr; rw [if_neg (fun e => e h), if_neg h1, if_neg (fun e => e h2), if_pos ⟨h3, h4⟩]
theorem err_range {r : Rec} (h : Within r.k 1 6) (h1 : ¬ FieldBad r) (h2 : Within r.t 0 1099511627776) (h3 : ¬ (tagK r.k ∧ nameB r.g = false)) (h4 : RangeBad r) : recErr r = 3 := by unfold recErr; rw [if_neg (fun e => e h), if_neg h1, if_neg (fun e => e h2), if_neg h3, if_pos h4]
theorem err_ok {r : Rec} (h : Within r.k 1 6) (h1 : ¬ FieldBad r) (h2 : Within r.t 0 1099511627776) (h3 : ¬ (tagK r.k ∧ nameB r.g = false)) (h4 : ¬ RangeBad r) : recErr r = 0 := by unfold recErr; rw [if_neg (fun e => e h), if_neg h1, if_neg (fun e => e h2), if_neg h3, if_neg h4]
theorem err_parts {r : Rec} (h : recErr r = 0) : Within r.k 1 6 ∧ ¬ FieldBad r ∧ Within r.t 0 1099511627776 ∧ ¬ (tagK r.k ∧ nameB r.g = false) ∧ ¬ RangeBad r := by
  unfold recErr at h
  by_cases a : ¬ Within r.k 1 6
  · rw [if_pos a] at h; omega
  rw [if_neg a] at h
  by_cases b : FieldBad r
  · rw [if_pos b] at h; omega
  rw [if_neg b] at h
  by_cases c : ¬ Within r.t 0 1099511627776
  · rw [if_pos c] at h; omega
  rw [if_neg c] at h
  by_cases d : tagK r.k ∧ nameB r.g = false
  · rw [if_pos d] at h; omega
  rw [if_neg d] at h
  by_cases e : RangeBad r
  · rw [if_pos e] at h; omega
  exact ⟨Decidable.not_not.1 a, b, Decidable.not_not.1 c, d, e⟩

theorem within_any (x a b : Int) (w : World) :
    Calls Try.prog 26 #[.int .i64 x, .int .i64 a, .int .i64 b] w fun e w' => e = .returned (.bool (decide (Within x a b))) ∧ w = w' := by
  by_cases h1 : a ≤ x
  · go_enter Try.func26, Try.ntmps26
    go_wp2
    go_ret
    exact ⟨ret_bool (by rw [decide_eq_decide]; unfold Within; omega), rfl⟩
  · go_enter Try.func26, Try.ntmps26
    go_wp2
    go_ret
    exact ⟨ret_bool (decide_eq_false (fun h => by unfold Within at h; omega)).symm, rfl⟩
theorem within_yes (x a b : Int) (w : World) (h : Within x a b) :
    Calls Try.prog 26 #[.int .i64 x, .int .i64 a, .int .i64 b] w fun e w' => e = .returned (.bool true) ∧ w = w' := by
  have := within_any x a b w
  rw [decide_eq_true h] at this
  exact this
theorem within_no (x a b : Int) (w : World) (h : ¬ Within x a b) :
    Calls Try.prog 26 #[.int .i64 x, .int .i64 a, .int .i64 b] w fun e w' => e = .returned (.bool false) ∧ w = w' := by
  have := within_any x a b w
  rw [decide_eq_false h] at this
  exact this
end Go.Proofs.Ytognidoohinipaa
