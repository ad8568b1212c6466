/-
  What is proved here: what the functions of package band, and of its reference, answer of one point (chapter 7). Conditions: none beyond each theorem's own.
-/
import Derived.Test.YtjidfcogcgaclaaRows
import Derived.Test.YtjidfcogcgaclaaBandLaws
import Derived.Test.YtjidfcogcgaclaaCore2
import Derived.BigQuiet
import Derived.Deep.QuietTactic
import Derived.Deep.LoopGhost
import Derived.WalkLawsBesides
import Derived.WalkSpells
import Derived.BigGuardPart
namespace Go.Proofs.Ytjidfcogcgaclaa
open Go.RowKit Go.Deep

def I64 (n : Int) : Prop := -9223372036854775808 ≤ n ∧ n ≤ 9223372036854775807
theorem I64.of {n : Int} (h : (Lit.int .i64 n).wf = true) : I64 n := by
  simp [Lit.wf, IntKind.min, IntKind.max, IntKind.signed, IntKind.bits] at h
  exact ⟨by omega, by omega⟩

theorem dist_bound (a b : Int) (ha : I64 a) (hb : I64 b) : 0 ≤ dist a b ∧ dist a b < 18446744073709551616 := by
  unfold I64 at ha hb
  unfold dist
  split <;> omega
theorem u64_of {a b : Int} (ha : I64 a) (hb : I64 b) (h : b ≤ a) : IntKind.u64.wrap (IntKind.u64.wrap a - IntKind.u64.wrap b) = a - b := by
  unfold I64 at ha hb
  rw [IntKind.wrap_u64, IntKind.wrap_u64, IntKind.wrap_u64]
  omega
theorem u64_pos {a : Int} (ha : I64 a) (h : 0 ≤ a) : IntKind.u64.wrap a = a := by
  unfold I64 at ha
  rw [IntKind.wrap_u64]
  omega

theorem apart_any (a b : Int) (ha : I64 a) (hb : I64 b) (w : World) :
    Calls Try.prog 23 #[.int .i64 a, .int .i64 b] w fun e w' => e = .returned (.int .u64 (dist a b)) ∧ w' = w := by
  have HA := Lib.hid ha
  have HB := Lib.hid hb
  clear ha hb
  by_cases h : b < a
  · go_enter Try.func23, Try.ntmps23
    go_wp2
    go_ret
    exact ⟨ret_int (by unfold dist; rw [if_pos h]; exact u64_of HA.out HB.out (by omega)), rfl⟩
  · go_enter Try.func23, Try.ntmps23
    go_wp2
    go_ret
    exact ⟨ret_int (by unfold dist; rw [if_neg (by omega)]; exact u64_of HB.out HA.out (by omega)), rfl⟩
theorem distance_any (a b : Int) (ha : I64 a) (hb : I64 b) (w : World) :
    Calls Try.prog 27 #[.int .i64 a, .int .i64 b] w fun e w' => e = .returned (.int .u64 (dist a b)) ∧ w' = w := by
  have HA := Lib.hid ha
  have HB := Lib.hid hb
  clear ha hb
  by_cases h : a < b
  · go_enter Try.func27, Try.ntmps27
    go_wp2
    go_ret
    exact ⟨ret_int (by unfold dist; rw [if_neg (by omega)]; exact u64_of HB.out HA.out (by omega)), rfl⟩
  · go_enter Try.func27, Try.ntmps27
    go_wp2
    go_ret
    refine ⟨ret_int ?_, rfl⟩
    by_cases e : b < a
    · unfold dist; rw [if_pos e]; exact u64_of HA.out HB.out (by omega)
    · have : a = b := by omega
      subst this
      unfold dist; rw [if_neg e]; exact u64_of HA.out HA.out (by omega)

theorem check_any (b : Band) (w : World) :
    Calls Try.prog 11 #[.agg #[.int .i64 b.dead, .int .i64 b.quiet]] w fun e w' => e = .returned (.int .i64 (bandErr b)) ∧ Below w.heap.size w w' := by
  go_enter Try.func11, Try.ntmps11
  go_wp2
  all_goals (go_ret; exact ⟨ret_int (by unfold bandErr; first | (rw [if_pos (by omega)]) | (rw [if_neg (by omega)])), by (repeat (first | (with_reducible assumption) | (with_reducible exact Below.refl _ _) | ((with_reducible refine Below.setCell ?_ ?_ _); rotate_left; · (first | omega | (simp; done) | (simp; omega) | (simp at *; omega))) | ((with_reducible refine Below.alloc ?_ ?_ _); rotate_left; · (first | omega | (simp; done) | (simp; omega) | (simp at *; omega))) | (with_reducible refine Below.drew ?_) | (with_reducible refine below_drewN ?_ _) | ((refine Below.trans ?_ (Below.mono (by with_reducible assumption) ?_)); rotate_left; · (first | omega | (simp; done) | (simp; omega) | (simp at *; omega)))))⟩)
theorem rcheck_any (b : Band) (w : World) :
    Calls Try.prog 12 #[.agg #[.int .i64 b.dead, .int .i64 b.quiet]] w fun e w' => e = .returned (.int .i64 (bandErr b)) ∧ Below w.heap.size w w' := by
  go_enter Try.func12, Try.ntmps12
  go_wp2
  all_goals (go_ret; exact ⟨ret_int (by unfold bandErr; first | (rw [if_pos (by omega)]) | (rw [if_neg (by omega)])), by (repeat (first | (with_reducible assumption) | (with_reducible exact Below.refl _ _) | ((with_reducible refine Below.setCell ?_ ?_ _); rotate_left; · (first | omega | (simp; done) | (simp; omega) | (simp at *; omega))) | ((with_reducible refine Below.alloc ?_ ?_ _); rotate_left; · (first | omega | (simp; done) | (simp; omega) | (simp at *; omega))) | (with_reducible refine Below.drew ?_) | (with_reducible refine below_drewN ?_ _) | ((refine Below.trans ?_ (Below.mono (by with_reducible assumption) ?_)); rotate_left; · (first | omega | (simp; done) | (simp; omega) | (simp at *; omega)))))⟩)

theorem quiet_add_same {P : Program} {f : FuncId} {args : Array Value} {w : World} {a n : Nat} {v : Value}
    (h : Calls P f args (w.drewN (a + n)) fun e w' => e = .returned v ∧ w' = w.drewN (a + n)) :
    Calls P f args (w.drewN (a + n)) fun e w'' => e = .returned v ∧ ∃ m, w'' = w.drewN (a + m) :=
  h.mono fun _ _ ⟨he, hm⟩ => ⟨he, n, hm⟩
theorem heldT : Try.prog.underlying 25 = some (.struct (Try.prog.fieldsOf 25)) := by kernel_rfl
theorem heldH : Try.prog.stoodInHeld 25 = false := by kernel_rfl
/-- are two that are held the same? -/
def eqh (a : Bool) (b c : Int) (a' : Bool) (b' c' : Int) : Bool := decide (a = a' ∧ b = b' ∧ c = c')
theorem eqh_self (a : Bool) (b c : Int) : eqh a b c a b c = true := by simp [eqh]
theorem eq_held (a : Bool) (b c : Int) (a' : Bool) (b' c' : Int) (w : World) : (binOp .eql 25 (.agg #[.bool a, .int .i64 b, .int .i64 c]) (.agg #[.bool a', .int .i64 b', .int .i64 c'])).run Try.prog w = .ok (.bool (eqh a b c a' b' c')) w := by
  rw [run_eql_struct, run_equalIn_agg _ _ _ _ _ heldT heldH]
  simp [go_sem]
  by_cases h1 : a = a' <;> by_cases h2 : b = b' <;> by_cases h3 : c = c' <;> simp [eqh, h1, h2, h3]
theorem ne_held (a : Bool) (b c : Int) (a' : Bool) (b' c' : Int) (w : World) : (binOp .neq 25 (.agg #[.bool a, .int .i64 b, .int .i64 c]) (.agg #[.bool a', .int .i64 b', .int .i64 c'])).run Try.prog w = .ok (.bool (!eqh a b c a' b' c')) w := by
  rw [run_neq_struct, run_equalIn_agg _ _ _ _ _ heldT heldH]
  simp [go_sem]
  by_cases h1 : a = a' <;> by_cases h2 : b = b' <;> by_cases h3 : c = c' <;> simp [eqh, h1, h2, h3]
attribute [local go_sem high] eq_held ne_held eqh_self

/-- what comes back of a step. -/
def StepBack (w : World) (h : Held) (t : Bool) (e : Ending) (w' : World) : Prop := e = .returned (.tuple #[.agg #[.bool h.has, .int .i64 h.v, .int .i64 h.t], .bool t]) ∧ Below w.heap.size w w'

set_option maxHeartbeats 1000000 in
theorem step_first (b : Band) (v t : Int) (p : Point) (w : World) :
    Calls Try.prog 9 #[.agg #[.int .i64 b.dead, .int .i64 b.quiet], .agg #[.bool false, .int .i64 v, .int .i64 t], .agg #[.int .i64 p.v, .int .i64 p.t]] w (StepBack w ⟨true, p.v, p.t⟩ true) := by
  cases he : eqh false v t false 0 0
  all_goals
    go_enter Try.func9, Try.ntmps9
    go_wp2
    refine bodyPost_ret (v := .tuple #[.agg #[.bool true, .int .i64 p.v, .int .i64 p.t], .bool true]) ?_ ?_ ?_
    · simp [results, Try.results9, go_sem]
    · rfl
    · exact ⟨rfl, by (repeat (first | (with_reducible assumption) | (with_reducible exact Below.refl _ _) | ((with_reducible refine Below.setCell ?_ ?_ _); rotate_left; · (first | omega | (simp; done) | (simp; omega) | (simp at *; omega))) | ((with_reducible refine Below.alloc ?_ ?_ _); rotate_left; · (first | omega | (simp; done) | (simp; omega) | (simp at *; omega))) | (with_reducible refine Below.drew ?_) | (with_reducible refine below_drewN ?_ _) | ((refine Below.trans ?_ (Below.mono (by with_reducible assumption) ?_)); rotate_left; · (first | omega | (simp; done) | (simp; omega) | (simp at *; omega)))))⟩

theorem eqh_true (v t : Int) : eqh true v t false 0 0 = false := by simp [eqh]

set_option maxRecDepth 100000 in
set_option maxHeartbeats 2000000 in
theorem step_far (b : Band) (v t : Int) (p : Point) (w : World) (h1 : I64 p.v) (h2 : I64 v) (hd : I64 b.dead) (hf : max b.dead 0 < dist p.v v) :
    Calls Try.prog 9 #[.agg #[.int .i64 b.dead, .int .i64 b.quiet], .agg #[.bool true, .int .i64 v, .int .i64 t], .agg #[.int .i64 p.v, .int .i64 p.t]] w (StepBack w ⟨true, p.v, p.t⟩ true) := by
  have he := eqh_true v t
  have HA := Lib.hid (fun W => apart_any p.v v h1 h2 W)
  by_cases hpos : ¬ b.dead < 0
  · have hu := u64_pos hd (by omega)
    have hf' : b.dead < dist p.v v := by omega
    clear h1 h2 hd hf
    obtain ⟨dd, hdd⟩ : ∃ dd, dd = dist p.v v := ⟨_, rfl⟩
    rw [← hdd] at HA hf'
    clear hdd
    go_enter Try.func9, Try.ntmps9
    go_wp2
    go_quiet ((go_at_call 23; exact Calls.quiet_of_same (HA.out _)))
    go_wp2
    refine bodyPost_ret (v := .tuple #[.agg #[.bool true, .int .i64 p.v, .int .i64 p.t], .bool true]) ?_ ?_ ?_
    · simp [results, Try.results9, go_sem]
    · rfl
    · exact ⟨rfl, by (repeat (first | (with_reducible assumption) | (with_reducible exact Below.refl _ _) | ((with_reducible refine Below.setCell ?_ ?_ _); rotate_left; · (first | omega | (simp; done) | (simp; omega) | (simp at *; omega))) | ((with_reducible refine Below.alloc ?_ ?_ _); rotate_left; · (first | omega | (simp; done) | (simp; omega) | (simp at *; omega))) | (with_reducible refine Below.drew ?_) | (with_reducible refine below_drewN ?_ _) | ((refine Below.trans ?_ (Below.mono (by with_reducible assumption) ?_)); rotate_left; · (first | omega | (simp; done) | (simp; omega) | (simp at *; omega)))))⟩
  · have hpos : b.dead < 0 := by omega
    have hf' : 0 < dist p.v v := by omega
    have hu : IntKind.u64.wrap 0 = 0 := by rw [IntKind.wrap_u64]; omega
    clear h1 h2 hd hf
    obtain ⟨dd, hdd⟩ : ∃ dd, dd = dist p.v v := ⟨_, rfl⟩
    rw [← hdd] at HA hf'
    clear hdd
    go_enter Try.func9, Try.ntmps9
    go_wp2
    go_quiet ((go_at_call 23; exact Calls.quiet_of_same (HA.out _)))
    go_wp2
    refine bodyPost_ret (v := .tuple #[.agg #[.bool true, .int .i64 p.v, .int .i64 p.t], .bool true]) ?_ ?_ ?_
    · simp [results, Try.results9, go_sem]
    · rfl
    · exact ⟨rfl, by (repeat (first | (with_reducible assumption) | (with_reducible exact Below.refl _ _) | ((with_reducible refine Below.setCell ?_ ?_ _); rotate_left; · (first | omega | (simp; done) | (simp; omega) | (simp at *; omega))) | ((with_reducible refine Below.alloc ?_ ?_ _); rotate_left; · (first | omega | (simp; done) | (simp; omega) | (simp at *; omega))) | (with_reducible refine Below.drew ?_) | (with_reducible refine below_drewN ?_ _) | ((refine Below.trans ?_ (Below.mono (by with_reducible assumption) ?_)); rotate_left; · (first | omega | (simp; done) | (simp; omega) | (simp at *; omega)))))⟩

set_option maxRecDepth 100000 in
set_option maxHeartbeats 4000000 in
theorem step_long (b : Band) (v t : Int) (p : Point) (w : World) (h1 : I64 p.v) (h2 : I64 v) (h3 : I64 p.t) (h4 : I64 t) (hd : I64 b.dead) (hq : I64 b.quiet) (hf : ¬ max b.dead 0 < dist p.v v) (q1 : 0 < b.quiet) (q2 : t ≤ p.t) (q3 : b.quiet ≤ dist p.t t) :
    Calls Try.prog 9 #[.agg #[.int .i64 b.dead, .int .i64 b.quiet], .agg #[.bool true, .int .i64 v, .int .i64 t], .agg #[.int .i64 p.v, .int .i64 p.t]] w (StepBack w ⟨true, p.v, p.t⟩ true) := by
  have he := eqh_true v t
  have HA := Lib.hid (fun W => apart_any p.v v h1 h2 W)
  have HT := Lib.hid (fun W => apart_any p.t t h3 h4 W)
  have hex : ∃ m : Int, (if b.dead < 0 then 0 else b.dead) = m ∧ IntKind.u64.wrap m = m ∧ ¬ m < dist p.v v := by
    refine ⟨_, rfl, ?_, ?_⟩
    · split
      · rw [IntKind.wrap_u64]; omega
      · exact u64_pos hd (by omega)
    · split <;> omega
  have hqu : 0 < b.quiet → IntKind.u64.wrap b.quiet = b.quiet := fun h => u64_pos hq (by omega)
  obtain ⟨dd, hdd⟩ : ∃ dd, dd = dist p.v v := ⟨_, rfl⟩
  obtain ⟨dt, hdt⟩ : ∃ dt, dt = dist p.t t := ⟨_, rfl⟩
  rw [← hdd] at HA hex
  rw [← hdt] at HT
  rw [← hdt] at q3
  have hqu' := hqu q1
  clear h1 h2 h3 h4 hd hq hf hdd hdt hqu
  by_cases hpos : b.dead < 0
  · rw [if_pos hpos] at hex
    obtain ⟨m, rfl, hu, hnf⟩ := hex
    go_enter Try.func9, Try.ntmps9
    go_wp2
    go_quiet ((go_at_call 23; exact Calls.quiet_of_same (HA.out _)))
    go_wp2
    go_quiet ((go_at_call 23; exact quiet_add_same (HT.out _)))
    go_wp2
    refine bodyPost_ret (v := .tuple #[.agg #[.bool true, .int .i64 p.v, .int .i64 p.t], .bool true]) ?_ ?_ ?_
    · simp [results, Try.results9, go_sem]
    · rfl
    · exact ⟨rfl, by (repeat (first | (with_reducible assumption) | (with_reducible exact Below.refl _ _) | ((with_reducible refine Below.setCell ?_ ?_ _); rotate_left; · (first | omega | (simp; done) | (simp; omega) | (simp at *; omega))) | ((with_reducible refine Below.alloc ?_ ?_ _); rotate_left; · (first | omega | (simp; done) | (simp; omega) | (simp at *; omega))) | (with_reducible refine Below.drew ?_) | (with_reducible refine below_drewN ?_ _) | ((refine Below.trans ?_ (Below.mono (by with_reducible assumption) ?_)); rotate_left; · (first | omega | (simp; done) | (simp; omega) | (simp at *; omega)))))⟩
  · rw [if_neg hpos] at hex
    obtain ⟨m, rfl, hu, hnf⟩ := hex
    go_enter Try.func9, Try.ntmps9
    go_wp2
    go_quiet ((go_at_call 23; exact Calls.quiet_of_same (HA.out _)))
    go_wp2
    go_quiet ((go_at_call 23; exact quiet_add_same (HT.out _)))
    go_wp2
    refine bodyPost_ret (v := .tuple #[.agg #[.bool true, .int .i64 p.v, .int .i64 p.t], .bool true]) ?_ ?_ ?_
    · simp [results, Try.results9, go_sem]
    · rfl
    · exact ⟨rfl, by (repeat (first | (with_reducible assumption) | (with_reducible exact Below.refl _ _) | ((with_reducible refine Below.setCell ?_ ?_ _); rotate_left; · (first | omega | (simp; done) | (simp; omega) | (simp at *; omega))) | ((with_reducible refine Below.alloc ?_ ?_ _); rotate_left; · (first | omega | (simp; done) | (simp; omega) | (simp at *; omega))) | (with_reducible refine Below.drew ?_) | (with_reducible refine below_drewN ?_ _) | ((refine Below.trans ?_ (Below.mono (by with_reducible assumption) ?_)); rotate_left; · (first | omega | (simp; done) | (simp; omega) | (simp at *; omega)))))⟩

set_option maxRecDepth 100000 in
set_option maxHeartbeats 4000000 in
theorem step_calm (b : Band) (v t : Int) (p : Point) (w : World) (h1 : I64 p.v) (h2 : I64 v) (h3 : I64 p.t) (h4 : I64 t) (hd : I64 b.dead) (hq : I64 b.quiet) (hf : ¬ max b.dead 0 < dist p.v v) (q1 : ¬ 0 < b.quiet) :
    Calls Try.prog 9 #[.agg #[.int .i64 b.dead, .int .i64 b.quiet], .agg #[.bool true, .int .i64 v, .int .i64 t], .agg #[.int .i64 p.v, .int .i64 p.t]] w (StepBack w ⟨true, v, t⟩ false) := by
  have he := eqh_true v t
  have HA := Lib.hid (fun W => apart_any p.v v h1 h2 W)
  have HT := Lib.hid (fun W => apart_any p.t t h3 h4 W)
  have hex : ∃ m : Int, (if b.dead < 0 then 0 else b.dead) = m ∧ IntKind.u64.wrap m = m ∧ ¬ m < dist p.v v := by
    refine ⟨_, rfl, ?_, ?_⟩
    · split
      · rw [IntKind.wrap_u64]; omega
      · exact u64_pos hd (by omega)
    · split <;> omega
  have hqu : 0 < b.quiet → IntKind.u64.wrap b.quiet = b.quiet := fun h => u64_pos hq (by omega)
  obtain ⟨dd, hdd⟩ : ∃ dd, dd = dist p.v v := ⟨_, rfl⟩
  obtain ⟨dt, hdt⟩ : ∃ dt, dt = dist p.t t := ⟨_, rfl⟩
  rw [← hdd] at HA hex
  rw [← hdt] at HT
  have q1' : decide (0 < b.quiet) = false := decide_eq_false q1
  clear h1 h2 h3 h4 hd hq hf hdd hdt hqu
  by_cases hpos : b.dead < 0
  · rw [if_pos hpos] at hex
    obtain ⟨m, rfl, hu, hnf⟩ := hex
    go_enter Try.func9, Try.ntmps9
    go_wp2
    go_quiet ((go_at_call 23; exact Calls.quiet_of_same (HA.out _)))
    go_wp2
    go_quiet ((go_at_call 23; exact quiet_add_same (HT.out _)))
    go_wp2
    refine bodyPost_ret (v := .tuple #[.agg #[.bool true, .int .i64 v, .int .i64 t], .bool false]) ?_ ?_ ?_
    · simp [results, Try.results9, go_sem]
    · rfl
    · exact ⟨rfl, by (repeat (first | (with_reducible assumption) | (with_reducible exact Below.refl _ _) | ((with_reducible refine Below.setCell ?_ ?_ _); rotate_left; · (first | omega | (simp; done) | (simp; omega) | (simp at *; omega))) | ((with_reducible refine Below.alloc ?_ ?_ _); rotate_left; · (first | omega | (simp; done) | (simp; omega) | (simp at *; omega))) | (with_reducible refine Below.drew ?_) | (with_reducible refine below_drewN ?_ _) | ((refine Below.trans ?_ (Below.mono (by with_reducible assumption) ?_)); rotate_left; · (first | omega | (simp; done) | (simp; omega) | (simp at *; omega)))))⟩
  · rw [if_neg hpos] at hex
    obtain ⟨m, rfl, hu, hnf⟩ := hex
    go_enter Try.func9, Try.ntmps9
    go_wp2
    go_quiet ((go_at_call 23; exact Calls.quiet_of_same (HA.out _)))
    go_wp2
    go_quiet ((go_at_call 23; exact quiet_add_same (HT.out _)))
    go_wp2
    refine bodyPost_ret (v := .tuple #[.agg #[.bool true, .int .i64 v, .int .i64 t], .bool false]) ?_ ?_ ?_
    · simp [results, Try.results9, go_sem]
    · rfl
    · exact ⟨rfl, by (repeat (first | (with_reducible assumption) | (with_reducible exact Below.refl _ _) | ((with_reducible refine Below.setCell ?_ ?_ _); rotate_left; · (first | omega | (simp; done) | (simp; omega) | (simp at *; omega))) | ((with_reducible refine Below.alloc ?_ ?_ _); rotate_left; · (first | omega | (simp; done) | (simp; omega) | (simp at *; omega))) | (with_reducible refine Below.drew ?_) | (with_reducible refine below_drewN ?_ _) | ((refine Below.trans ?_ (Below.mono (by with_reducible assumption) ?_)); rotate_left; · (first | omega | (simp; done) | (simp; omega) | (simp at *; omega)))))⟩

set_option maxRecDepth 100000 in
set_option maxHeartbeats 4000000 in
theorem step_back (b : Band) (v t : Int) (p : Point) (w : World) (h1 : I64 p.v) (h2 : I64 v) (h3 : I64 p.t) (h4 : I64 t) (hd : I64 b.dead) (hq : I64 b.quiet) (hf : ¬ max b.dead 0 < dist p.v v) (q1 : 0 < b.quiet) (q2 : ¬ t ≤ p.t) :
    Calls Try.prog 9 #[.agg #[.int .i64 b.dead, .int .i64 b.quiet], .agg #[.bool true, .int .i64 v, .int .i64 t], .agg #[.int .i64 p.v, .int .i64 p.t]] w (StepBack w ⟨true, v, t⟩ false) := by
  have he := eqh_true v t
  have HA := Lib.hid (fun W => apart_any p.v v h1 h2 W)
  have HT := Lib.hid (fun W => apart_any p.t t h3 h4 W)
  have hex : ∃ m : Int, (if b.dead < 0 then 0 else b.dead) = m ∧ IntKind.u64.wrap m = m ∧ ¬ m < dist p.v v := by
    refine ⟨_, rfl, ?_, ?_⟩
    · split
      · rw [IntKind.wrap_u64]; omega
      · exact u64_pos hd (by omega)
    · split <;> omega
  have hqu : 0 < b.quiet → IntKind.u64.wrap b.quiet = b.quiet := fun h => u64_pos hq (by omega)
  obtain ⟨dd, hdd⟩ : ∃ dd, dd = dist p.v v := ⟨_, rfl⟩
  obtain ⟨dt, hdt⟩ : ∃ dt, dt = dist p.t t := ⟨_, rfl⟩
  rw [← hdd] at HA hex
  rw [← hdt] at HT
  have q2' : decide (t ≤ p.t) = false := decide_eq_false q2
  clear h1 h2 h3 h4 hd hq hf hdd hdt hqu
  by_cases hpos : b.dead < 0
  · rw [if_pos hpos] at hex
    obtain ⟨m, rfl, hu, hnf⟩ := hex
    go_enter Try.func9, Try.ntmps9
    go_wp2
    go_quiet ((go_at_call 23; exact Calls.quiet_of_same (HA.out _)))
    go_wp2
    go_quiet ((go_at_call 23; exact quiet_add_same (HT.out _)))
    go_wp2
    refine bodyPost_ret (v := .tuple #[.agg #[.bool true, .int .i64 v, .int .i64 t], .bool false]) ?_ ?_ ?_
    · simp [results, Try.results9, go_sem]
    · rfl
    · exact ⟨rfl, by (repeat (first | (with_reducible assumption) | (with_reducible exact Below.refl _ _) | ((with_reducible refine Below.setCell ?_ ?_ _); rotate_left; · (first | omega | (simp; done) | (simp; omega) | (simp at *; omega))) | ((with_reducible refine Below.alloc ?_ ?_ _); rotate_left; · (first | omega | (simp; done) | (simp; omega) | (simp at *; omega))) | (with_reducible refine Below.drew ?_) | (with_reducible refine below_drewN ?_ _) | ((refine Below.trans ?_ (Below.mono (by with_reducible assumption) ?_)); rotate_left; · (first | omega | (simp; done) | (simp; omega) | (simp at *; omega)))))⟩
  · rw [if_neg hpos] at hex
    obtain ⟨m, rfl, hu, hnf⟩ := hex
    go_enter Try.func9, Try.ntmps9
    go_wp2
    go_quiet ((go_at_call 23; exact Calls.quiet_of_same (HA.out _)))
    go_wp2
    go_quiet ((go_at_call 23; exact quiet_add_same (HT.out _)))
    go_wp2
    refine bodyPost_ret (v := .tuple #[.agg #[.bool true, .int .i64 v, .int .i64 t], .bool false]) ?_ ?_ ?_
    · simp [results, Try.results9, go_sem]
    · rfl
    · exact ⟨rfl, by (repeat (first | (with_reducible assumption) | (with_reducible exact Below.refl _ _) | ((with_reducible refine Below.setCell ?_ ?_ _); rotate_left; · (first | omega | (simp; done) | (simp; omega) | (simp at *; omega))) | ((with_reducible refine Below.alloc ?_ ?_ _); rotate_left; · (first | omega | (simp; done) | (simp; omega) | (simp at *; omega))) | (with_reducible refine Below.drew ?_) | (with_reducible refine below_drewN ?_ _) | ((refine Below.trans ?_ (Below.mono (by with_reducible assumption) ?_)); rotate_left; · (first | omega | (simp; done) | (simp; omega) | (simp at *; omega)))))⟩

set_option maxRecDepth 100000 in
set_option maxHeartbeats 4000000 in
theorem step_soon (b : Band) (v t : Int) (p : Point) (w : World) (h1 : I64 p.v) (h2 : I64 v) (h3 : I64 p.t) (h4 : I64 t) (hd : I64 b.dead) (hq : I64 b.quiet) (hf : ¬ max b.dead 0 < dist p.v v) (q1 : 0 < b.quiet) (q2 : t ≤ p.t) (q3 : ¬ b.quiet ≤ dist p.t t) :
    Calls Try.prog 9 #[.agg #[.int .i64 b.dead, .int .i64 b.quiet], .agg #[.bool true, .int .i64 v, .int .i64 t], .agg #[.int .i64 p.v, .int .i64 p.t]] w (StepBack w ⟨true, v, t⟩ false) := by
  have he := eqh_true v t
  have HA := Lib.hid (fun W => apart_any p.v v h1 h2 W)
  have HT := Lib.hid (fun W => apart_any p.t t h3 h4 W)
  have hex : ∃ m : Int, (if b.dead < 0 then 0 else b.dead) = m ∧ IntKind.u64.wrap m = m ∧ ¬ m < dist p.v v := by
    refine ⟨_, rfl, ?_, ?_⟩
    · split
      · rw [IntKind.wrap_u64]; omega
      · exact u64_pos hd (by omega)
    · split <;> omega
  have hqu : 0 < b.quiet → IntKind.u64.wrap b.quiet = b.quiet := fun h => u64_pos hq (by omega)
  obtain ⟨dd, hdd⟩ : ∃ dd, dd = dist p.v v := ⟨_, rfl⟩
  obtain ⟨dt, hdt⟩ : ∃ dt, dt = dist p.t t := ⟨_, rfl⟩
  rw [← hdd] at HA hex
  rw [← hdt] at HT
  rw [← hdt] at q3
  have hqu' := hqu q1
  clear h1 h2 h3 h4 hd hq hf hdd hdt hqu
  by_cases hpos : b.dead < 0
  · rw [if_pos hpos] at hex
    obtain ⟨m, rfl, hu, hnf⟩ := hex
    go_enter Try.func9, Try.ntmps9
    go_wp2
    go_quiet ((go_at_call 23; exact Calls.quiet_of_same (HA.out _)))
    go_wp2
    go_quiet ((go_at_call 23; exact quiet_add_same (HT.out _)))
    go_wp2
    refine bodyPost_ret (v := .tuple #[.agg #[.bool true, .int .i64 v, .int .i64 t], .bool false]) ?_ ?_ ?_
    · simp [results, Try.results9, go_sem]
    · rfl
    · exact ⟨rfl, by (repeat (first | (with_reducible assumption) | (with_reducible exact Below.refl _ _) | ((with_reducible refine Below.setCell ?_ ?_ _); rotate_left; · (first | omega | (simp; done) | (simp; omega) | (simp at *; omega))) | ((with_reducible refine Below.alloc ?_ ?_ _); rotate_left; · (first | omega | (simp; done) | (simp; omega) | (simp at *; omega))) | (with_reducible refine Below.drew ?_) | (with_reducible refine below_drewN ?_ _) | ((refine Below.trans ?_ (Below.mono (by with_reducible assumption) ?_)); rotate_left; · (first | omega | (simp; done) | (simp; omega) | (simp at *; omega)))))⟩
  · rw [if_neg hpos] at hex
    obtain ⟨m, rfl, hu, hnf⟩ := hex
    go_enter Try.func9, Try.ntmps9
    go_wp2
    go_quiet ((go_at_call 23; exact Calls.quiet_of_same (HA.out _)))
    go_wp2
    go_quiet ((go_at_call 23; exact quiet_add_same (HT.out _)))
    go_wp2
    refine bodyPost_ret (v := .tuple #[.agg #[.bool true, .int .i64 v, .int .i64 t], .bool false]) ?_ ?_ ?_
    · simp [results, Try.results9, go_sem]
    · rfl
    · exact ⟨rfl, by (repeat (first | (with_reducible assumption) | (with_reducible exact Below.refl _ _) | ((with_reducible refine Below.setCell ?_ ?_ _); rotate_left; · (first | omega | (simp; done) | (simp; omega) | (simp at *; omega))) | ((with_reducible refine Below.alloc ?_ ?_ _); rotate_left; · (first | omega | (simp; done) | (simp; omega) | (simp at *; omega))) | (with_reducible refine Below.drew ?_) | (with_reducible refine below_drewN ?_ _) | ((refine Below.trans ?_ (Below.mono (by with_reducible assumption) ?_)); rotate_left; · (first | omega | (simp; done) | (simp; omega) | (simp at *; omega)))))⟩

theorem step_any (b : Band) (h : Held) (p : Point) (w : World) (h1 : I64 p.v) (h2 : I64 h.v) (h3 : I64 p.t) (h4 : I64 h.t) (hd : I64 b.dead) (hq : I64 b.quiet) :
    Calls Try.prog 9 #[.agg #[.int .i64 b.dead, .int .i64 b.quiet], .agg #[.bool h.has, .int .i64 h.v, .int .i64 h.t], .agg #[.int .i64 p.v, .int .i64 p.t]] w (StepBack w (next b h p) (told b h p)) := by
  obtain ⟨has, v, t⟩ := h
  cases has with
  | false =>
    have e : told b ⟨false, v, t⟩ p = true := told_no rfl
    unfold next
    rw [e, if_pos rfl]
    exact step_first b v t p w
  | true =>
    by_cases hf : max b.dead 0 < dist p.v v
    · have e : told b ⟨true, v, t⟩ p = true := told_far hf
      unfold next
      rw [e, if_pos rfl]
      exact step_far b v t p w h1 h2 hd hf
    · by_cases hl : 0 < b.quiet ∧ t ≤ p.t ∧ b.quiet ≤ dist p.t t
      · have e : told b ⟨true, v, t⟩ p = true := told_long hl.1 hl.2.1 hl.2.2
        unfold next
        rw [e, if_pos rfl]
        exact step_long b v t p w h1 h2 h3 h4 hd hq hf hl.1 hl.2.1 hl.2.2
      · have e : told b ⟨true, v, t⟩ p = false := told_not rfl hf hl
        unfold next
        rw [e, if_neg (by simp)]
        by_cases q1 : 0 < b.quiet
        · by_cases q2 : t ≤ p.t
          · exact step_soon b v t p w h1 h2 h3 h4 hd hq hf q1 q2 (fun q3 => hl ⟨q1, q2, q3⟩)
          · exact step_back b v t p w h1 h2 h3 h4 hd hq hf q1 q2
        · exact step_calm b v t p w h1 h2 h3 h4 hd hq hf q1
end Go.Proofs.Ytjidfcogcgaclaa
