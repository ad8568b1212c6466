/-
  What is proved here: what the reference of chapter 7 answers of one point. Conditions: none beyond each theorem's own.
-/
import Derived.Test.YtjidfcogcgaclaaBandStep
namespace Go.Proofs.Ytjidfcogcgaclaa
open Go.RowKit Go.Deep
attribute [local go_sem high] eq_held ne_held eqh_self

def ToldBack (w : World) (t : Bool) (e : Ending) (w' : World) : Prop := e = .returned (.bool t) ∧ Below w.heap.size w w'

theorem told_first (b : Band) (v t : Int) (p : Point) (w : World) :
    Calls Try.prog 24 #[.agg #[.int .i64 b.dead, .int .i64 b.quiet], .agg #[.bool false, .int .i64 v, .int .i64 t], .agg #[.int .i64 p.v, .int .i64 p.t]] w (ToldBack w true) := by
  by_cases hpos : 0 < b.dead
  all_goals
    go_enter Try.func24, Try.ntmps24
    go_wp2
    go_ret
    exact ⟨rfl, by (repeat (first | (with_reducible assumption) | (with_reducible exact Below.refl _ _) | ((with_reducible refine Below.setCell ?_ ?_ _); rotate_left; · (first | omega | (simp; done) | (simp; omega) | (simp at *; omega))) | ((with_reducible refine Below.alloc ?_ ?_ _); rotate_left; · (first | omega | (simp; done) | (simp; omega) | (simp at *; omega))) | (with_reducible refine Below.drew ?_) | (with_reducible refine below_drewN ?_ _) | ((refine Below.trans ?_ (Below.mono (by with_reducible assumption) ?_)); rotate_left; · (first | omega | (simp; done) | (simp; omega) | (simp at *; omega)))))⟩

set_option maxRecDepth 100000 in
set_option maxHeartbeats 4000000 in
theorem told_far_r (b : Band) (v t : Int) (p : Point) (w : World) (h1 : I64 p.v) (h2 : I64 v) (h3 : I64 p.t) (h4 : I64 t) (hd : I64 b.dead) (hq : I64 b.quiet) (hf : max b.dead 0 < dist p.v v) :
    Calls Try.prog 24 #[.agg #[.int .i64 b.dead, .int .i64 b.quiet], .agg #[.bool true, .int .i64 v, .int .i64 t], .agg #[.int .i64 p.v, .int .i64 p.t]] w (ToldBack w true) := by
  have HA := Lib.hid (fun W => distance_any p.v v h1 h2 W)
  have HT := Lib.hid (fun W => distance_any p.t t h3 h4 W)
  have hqu : 0 < b.quiet → IntKind.u64.wrap b.quiet = b.quiet := fun h => u64_pos hq (by omega)
  have hdu : 0 < b.dead → IntKind.u64.wrap b.dead = b.dead := fun h => u64_pos hd (by omega)
  obtain ⟨dd, hdd⟩ : ∃ dd, dd = dist p.v v := ⟨_, rfl⟩
  obtain ⟨dt, hdt⟩ : ∃ dt, dt = dist p.t t := ⟨_, rfl⟩
  rw [← hdd] at HA hf
  rw [← hdt] at HT
  clear h1 h2 h3 h4 hd hq hdd hdt hqu
  by_cases hpos : 0 < b.dead
  · have hdu' := hdu hpos
    have hf' : b.dead < dd := by omega
    clear hf hdu
    go_enter Try.func24, Try.ntmps24
    go_wp2_with (go_at_call 27; refine (HA.out _).mono ?_; rintro e w' ⟨rfl, rfl⟩)
    go_ret
    exact ⟨rfl, by (repeat (first | (with_reducible assumption) | (with_reducible exact Below.refl _ _) | ((with_reducible refine Below.setCell ?_ ?_ _); rotate_left; · (first | omega | (simp; done) | (simp; omega) | (simp at *; omega))) | ((with_reducible refine Below.alloc ?_ ?_ _); rotate_left; · (first | omega | (simp; done) | (simp; omega) | (simp at *; omega))) | (with_reducible refine Below.drew ?_) | (with_reducible refine below_drewN ?_ _) | ((refine Below.trans ?_ (Below.mono (by with_reducible assumption) ?_)); rotate_left; · (first | omega | (simp; done) | (simp; omega) | (simp at *; omega)))))⟩
  · have hf' : 0 < dd := by omega
    clear hf hdu
    go_enter Try.func24, Try.ntmps24
    go_wp2_with (go_at_call 27; refine (HA.out _).mono ?_; rintro e w' ⟨rfl, rfl⟩)
    go_ret
    exact ⟨rfl, by (repeat (first | (with_reducible assumption) | (with_reducible exact Below.refl _ _) | ((with_reducible refine Below.setCell ?_ ?_ _); rotate_left; · (first | omega | (simp; done) | (simp; omega) | (simp at *; omega))) | ((with_reducible refine Below.alloc ?_ ?_ _); rotate_left; · (first | omega | (simp; done) | (simp; omega) | (simp at *; omega))) | (with_reducible refine Below.drew ?_) | (with_reducible refine below_drewN ?_ _) | ((refine Below.trans ?_ (Below.mono (by with_reducible assumption) ?_)); rotate_left; · (first | omega | (simp; done) | (simp; omega) | (simp at *; omega)))))⟩

set_option maxRecDepth 100000 in
set_option maxHeartbeats 4000000 in
theorem told_long_r (b : Band) (v t : Int) (p : Point) (w : World) (h1 : I64 p.v) (h2 : I64 v) (h3 : I64 p.t) (h4 : I64 t) (hd : I64 b.dead) (hq : I64 b.quiet) (hf : ¬ max b.dead 0 < dist p.v v) (q1 : 0 < b.quiet) (q2 : t ≤ p.t) (q3 : b.quiet ≤ dist p.t t) :
    Calls Try.prog 24 #[.agg #[.int .i64 b.dead, .int .i64 b.quiet], .agg #[.bool true, .int .i64 v, .int .i64 t], .agg #[.int .i64 p.v, .int .i64 p.t]] w (ToldBack w true) := by
  have HA := Lib.hid (fun W => distance_any p.v v h1 h2 W)
  have HT := Lib.hid (fun W => distance_any p.t t h3 h4 W)
  have hqu : 0 < b.quiet → IntKind.u64.wrap b.quiet = b.quiet := fun h => u64_pos hq (by omega)
  have hdu : 0 < b.dead → IntKind.u64.wrap b.dead = b.dead := fun h => u64_pos hd (by omega)
  obtain ⟨dd, hdd⟩ : ∃ dd, dd = dist p.v v := ⟨_, rfl⟩
  obtain ⟨dt, hdt⟩ : ∃ dt, dt = dist p.t t := ⟨_, rfl⟩
  rw [← hdd] at HA hf
  rw [← hdt] at HT
  rw [← hdt] at q3
  have hqu' := hqu q1
  clear h1 h2 h3 h4 hd hq hdd hdt hqu
  by_cases hpos : 0 < b.dead
  · have hdu' := hdu hpos
    have hf' : ¬ b.dead < dd := by omega
    clear hf hdu
    go_enter Try.func24, Try.ntmps24
    go_wp2_with (go_at_call 27; refine (HA.out _).mono ?_; rintro e w' ⟨rfl, rfl⟩)
    go_quiet ((go_at_call 27; exact Calls.quiet_of_same (HT.out _)))
    go_wp2
    go_ret
    exact ⟨rfl, by (repeat (first | (with_reducible assumption) | (with_reducible exact Below.refl _ _) | ((with_reducible refine Below.setCell ?_ ?_ _); rotate_left; · (first | omega | (simp; done) | (simp; omega) | (simp at *; omega))) | ((with_reducible refine Below.alloc ?_ ?_ _); rotate_left; · (first | omega | (simp; done) | (simp; omega) | (simp at *; omega))) | (with_reducible refine Below.drew ?_) | (with_reducible refine below_drewN ?_ _) | ((refine Below.trans ?_ (Below.mono (by with_reducible assumption) ?_)); rotate_left; · (first | omega | (simp; done) | (simp; omega) | (simp at *; omega)))))⟩
  · have hf' : ¬ 0 < dd := by omega
    clear hf hdu
    go_enter Try.func24, Try.ntmps24
    go_wp2_with (go_at_call 27; refine (HA.out _).mono ?_; rintro e w' ⟨rfl, rfl⟩)
    go_quiet ((go_at_call 27; exact Calls.quiet_of_same (HT.out _)))
    go_wp2
    go_ret
    exact ⟨rfl, by (repeat (first | (with_reducible assumption) | (with_reducible exact Below.refl _ _) | ((with_reducible refine Below.setCell ?_ ?_ _); rotate_left; · (first | omega | (simp; done) | (simp; omega) | (simp at *; omega))) | ((with_reducible refine Below.alloc ?_ ?_ _); rotate_left; · (first | omega | (simp; done) | (simp; omega) | (simp at *; omega))) | (with_reducible refine Below.drew ?_) | (with_reducible refine below_drewN ?_ _) | ((refine Below.trans ?_ (Below.mono (by with_reducible assumption) ?_)); rotate_left; · (first | omega | (simp; done) | (simp; omega) | (simp at *; omega)))))⟩

set_option maxRecDepth 100000 in
set_option maxHeartbeats 4000000 in
theorem told_calm_r (b : Band) (v t : Int) (p : Point) (w : World) (h1 : I64 p.v) (h2 : I64 v) (h3 : I64 p.t) (h4 : I64 t) (hd : I64 b.dead) (hq : I64 b.quiet) (hf : ¬ max b.dead 0 < dist p.v v) (q1 : ¬ 0 < b.quiet) :
    Calls Try.prog 24 #[.agg #[.int .i64 b.dead, .int .i64 b.quiet], .agg #[.bool true, .int .i64 v, .int .i64 t], .agg #[.int .i64 p.v, .int .i64 p.t]] w (ToldBack w false) := by
  have HA := Lib.hid (fun W => distance_any p.v v h1 h2 W)
  have HT := Lib.hid (fun W => distance_any p.t t h3 h4 W)
  have hqu : 0 < b.quiet → IntKind.u64.wrap b.quiet = b.quiet := fun h => u64_pos hq (by omega)
  have hdu : 0 < b.dead → IntKind.u64.wrap b.dead = b.dead := fun h => u64_pos hd (by omega)
  obtain ⟨dd, hdd⟩ : ∃ dd, dd = dist p.v v := ⟨_, rfl⟩
  obtain ⟨dt, hdt⟩ : ∃ dt, dt = dist p.t t := ⟨_, rfl⟩
  rw [← hdd] at HA hf
  rw [← hdt] at HT
  have q1' : decide (0 < b.quiet) = false := decide_eq_false q1
  clear h1 h2 h3 h4 hd hq hdd hdt hqu
  by_cases hpos : 0 < b.dead
  · have hdu' := hdu hpos
    have hf' : ¬ b.dead < dd := by omega
    clear hf hdu
    go_enter Try.func24, Try.ntmps24
    go_wp2_with (go_at_call 27; refine (HA.out _).mono ?_; rintro e w' ⟨rfl, rfl⟩)
    go_quiet ((go_at_call 27; exact Calls.quiet_of_same (HT.out _)))
    go_wp2
    go_ret
    exact ⟨rfl, by (repeat (first | (with_reducible assumption) | (with_reducible exact Below.refl _ _) | ((with_reducible refine Below.setCell ?_ ?_ _); rotate_left; · (first | omega | (simp; done) | (simp; omega) | (simp at *; omega))) | ((with_reducible refine Below.alloc ?_ ?_ _); rotate_left; · (first | omega | (simp; done) | (simp; omega) | (simp at *; omega))) | (with_reducible refine Below.drew ?_) | (with_reducible refine below_drewN ?_ _) | ((refine Below.trans ?_ (Below.mono (by with_reducible assumption) ?_)); rotate_left; · (first | omega | (simp; done) | (simp; omega) | (simp at *; omega)))))⟩
  · have hf' : ¬ 0 < dd := by omega
    clear hf hdu
    go_enter Try.func24, Try.ntmps24
    go_wp2_with (go_at_call 27; refine (HA.out _).mono ?_; rintro e w' ⟨rfl, rfl⟩)
    go_quiet ((go_at_call 27; exact Calls.quiet_of_same (HT.out _)))
    go_wp2
    go_ret
    exact ⟨rfl, by (repeat (first | (with_reducible assumption) | (with_reducible exact Below.refl _ _) | ((with_reducible refine Below.setCell ?_ ?_ _); rotate_left; · (first | omega | (simp; done) | (simp; omega) | (simp at *; omega))) | ((with_reducible refine Below.alloc ?_ ?_ _); rotate_left; · (first | omega | (simp; done) | (simp; omega) | (simp at *; omega))) | (with_reducible refine Below.drew ?_) | (with_reducible refine below_drewN ?_ _) | ((refine Below.trans ?_ (Below.mono (by with_reducible assumption) ?_)); rotate_left; · (first | omega | (simp; done) | (simp; omega) | (simp at *; omega)))))⟩

set_option maxRecDepth 100000 in
set_option maxHeartbeats 4000000 in
theorem told_back_r (b : Band) (v t : Int) (p : Point) (w : World) (h1 : I64 p.v) (h2 : I64 v) (h3 : I64 p.t) (h4 : I64 t) (hd : I64 b.dead) (hq : I64 b.quiet) (hf : ¬ max b.dead 0 < dist p.v v) (q1 : 0 < b.quiet) (q2 : ¬ t ≤ p.t) :
    Calls Try.prog 24 #[.agg #[.int .i64 b.dead, .int .i64 b.quiet], .agg #[.bool true, .int .i64 v, .int .i64 t], .agg #[.int .i64 p.v, .int .i64 p.t]] w (ToldBack w false) := by
  have HA := Lib.hid (fun W => distance_any p.v v h1 h2 W)
  have HT := Lib.hid (fun W => distance_any p.t t h3 h4 W)
  have hqu : 0 < b.quiet → IntKind.u64.wrap b.quiet = b.quiet := fun h => u64_pos hq (by omega)
  have hdu : 0 < b.dead → IntKind.u64.wrap b.dead = b.dead := fun h => u64_pos hd (by omega)
  obtain ⟨dd, hdd⟩ : ∃ dd, dd = dist p.v v := ⟨_, rfl⟩
  obtain ⟨dt, hdt⟩ : ∃ dt, dt = dist p.t t := ⟨_, rfl⟩
  rw [← hdd] at HA hf
  rw [← hdt] at HT
  have q2' : decide (t ≤ p.t) = false := decide_eq_false q2
  clear h1 h2 h3 h4 hd hq hdd hdt hqu
  by_cases hpos : 0 < b.dead
  · have hdu' := hdu hpos
    have hf' : ¬ b.dead < dd := by omega
    clear hf hdu
    go_enter Try.func24, Try.ntmps24
    go_wp2_with (go_at_call 27; refine (HA.out _).mono ?_; rintro e w' ⟨rfl, rfl⟩)
    go_quiet ((go_at_call 27; exact Calls.quiet_of_same (HT.out _)))
    go_wp2
    go_ret
    exact ⟨rfl, by (repeat (first | (with_reducible assumption) | (with_reducible exact Below.refl _ _) | ((with_reducible refine Below.setCell ?_ ?_ _); rotate_left; · (first | omega | (simp; done) | (simp; omega) | (simp at *; omega))) | ((with_reducible refine Below.alloc ?_ ?_ _); rotate_left; · (first | omega | (simp; done) | (simp; omega) | (simp at *; omega))) | (with_reducible refine Below.drew ?_) | (with_reducible refine below_drewN ?_ _) | ((refine Below.trans ?_ (Below.mono (by with_reducible assumption) ?_)); rotate_left; · (first | omega | (simp; done) | (simp; omega) | (simp at *; omega)))))⟩
  · have hf' : ¬ 0 < dd := by omega
    clear hf hdu
    go_enter Try.func24, Try.ntmps24
    go_wp2_with (go_at_call 27; refine (HA.out _).mono ?_; rintro e w' ⟨rfl, rfl⟩)
    go_quiet ((go_at_call 27; exact Calls.quiet_of_same (HT.out _)))
    go_wp2
    go_ret
    exact ⟨rfl, by (repeat (first | (with_reducible assumption) | (with_reducible exact Below.refl _ _) | ((with_reducible refine Below.setCell ?_ ?_ _); rotate_left; · (first | omega | (simp; done) | (simp; omega) | (simp at *; omega))) | ((with_reducible refine Below.alloc ?_ ?_ _); rotate_left; · (first | omega | (simp; done) | (simp; omega) | (simp at *; omega))) | (with_reducible refine Below.drew ?_) | (with_reducible refine below_drewN ?_ _) | ((refine Below.trans ?_ (Below.mono (by with_reducible assumption) ?_)); rotate_left; · (first | omega | (simp; done) | (simp; omega) | (simp at *; omega)))))⟩

set_option maxRecDepth 100000 in
set_option maxHeartbeats 4000000 in
theorem told_soon_r (b : Band) (v t : Int) (p : Point) (w : World) (h1 : I64 p.v) (h2 : I64 v) (h3 : I64 p.t) (h4 : I64 t) (hd : I64 b.dead) (hq : I64 b.quiet) (hf : ¬ max b.dead 0 < dist p.v v) (q1 : 0 < b.quiet) (q2 : t ≤ p.t) (q3 : ¬ b.quiet ≤ dist p.t t) :
    Calls Try.prog 24 #[.agg #[.int .i64 b.dead, .int .i64 b.quiet], .agg #[.bool true, .int .i64 v, .int .i64 t], .agg #[.int .i64 p.v, .int .i64 p.t]] w (ToldBack w false) := by
  have HA := Lib.hid (fun W => distance_any p.v v h1 h2 W)
  have HT := Lib.hid (fun W => distance_any p.t t h3 h4 W)
  have hqu : 0 < b.quiet → IntKind.u64.wrap b.quiet = b.quiet := fun h => u64_pos hq (by omega)
  have hdu : 0 < b.dead → IntKind.u64.wrap b.dead = b.dead := fun h => u64_pos hd (by omega)
  obtain ⟨dd, hdd⟩ : ∃ dd, dd = dist p.v v := ⟨_, rfl⟩
  obtain ⟨dt, hdt⟩ : ∃ dt, dt = dist p.t t := ⟨_, rfl⟩
  rw [← hdd] at HA hf
  rw [← hdt] at HT
  rw [← hdt] at q3
  have hqu' := hqu q1
  clear h1 h2 h3 h4 hd hq hdd hdt hqu
  by_cases hpos : 0 < b.dead
  · have hdu' := hdu hpos
    have hf' : ¬ b.dead < dd := by omega
    clear hf hdu
    go_enter Try.func24, Try.ntmps24
    go_wp2_with (go_at_call 27; refine (HA.out _).mono ?_; rintro e w' ⟨rfl, rfl⟩)
    go_quiet ((go_at_call 27; exact Calls.quiet_of_same (HT.out _)))
    go_wp2
    go_ret
    exact ⟨ret_bool (decide_eq_false (by omega)), by (repeat (first | (with_reducible assumption) | (with_reducible exact Below.refl _ _) | ((with_reducible refine Below.setCell ?_ ?_ _); rotate_left; · (first | omega | (simp; done) | (simp; omega) | (simp at *; omega))) | ((with_reducible refine Below.alloc ?_ ?_ _); rotate_left; · (first | omega | (simp; done) | (simp; omega) | (simp at *; omega))) | (with_reducible refine Below.drew ?_) | (with_reducible refine below_drewN ?_ _) | ((refine Below.trans ?_ (Below.mono (by with_reducible assumption) ?_)); rotate_left; · (first | omega | (simp; done) | (simp; omega) | (simp at *; omega)))))⟩
  · have hf' : ¬ 0 < dd := by omega
    clear hf hdu
    go_enter Try.func24, Try.ntmps24
    go_wp2_with (go_at_call 27; refine (HA.out _).mono ?_; rintro e w' ⟨rfl, rfl⟩)
    go_quiet ((go_at_call 27; exact Calls.quiet_of_same (HT.out _)))
    go_wp2
    go_ret
    exact ⟨ret_bool (decide_eq_false (by omega)), by (repeat (first | (with_reducible assumption) | (with_reducible exact Below.refl _ _) | ((with_reducible refine Below.setCell ?_ ?_ _); rotate_left; · (first | omega | (simp; done) | (simp; omega) | (simp at *; omega))) | ((with_reducible refine Below.alloc ?_ ?_ _); rotate_left; · (first | omega | (simp; done) | (simp; omega) | (simp at *; omega))) | (with_reducible refine Below.drew ?_) | (with_reducible refine below_drewN ?_ _) | ((refine Below.trans ?_ (Below.mono (by with_reducible assumption) ?_)); rotate_left; · (first | omega | (simp; done) | (simp; omega) | (simp at *; omega)))))⟩

theorem told_any (b : Band) (h : Held) (p : Point) (w : World) (h1 : I64 p.v) (h2 : I64 h.v) (h3 : I64 p.t) (h4 : I64 h.t) (hd : I64 b.dead) (hq : I64 b.quiet) :
    Calls Try.prog 24 #[.agg #[.int .i64 b.dead, .int .i64 b.quiet], .agg #[.bool h.has, .int .i64 h.v, .int .i64 h.t], .agg #[.int .i64 p.v, .int .i64 p.t]] w (ToldBack w (told b h p)) := by
  obtain ⟨has, v, t⟩ := h
  cases has with
  | false =>
    have e : told b ⟨false, v, t⟩ p = true := told_no rfl
    rw [e]
    exact told_first b v t p w
  | true =>
    by_cases hf : max b.dead 0 < dist p.v v
    · have e : told b ⟨true, v, t⟩ p = true := told_far hf
      rw [e]
      exact told_far_r b v t p w h1 h2 h3 h4 hd hq hf
    · by_cases hl : 0 < b.quiet ∧ t ≤ p.t ∧ b.quiet ≤ dist p.t t
      · have e : told b ⟨true, v, t⟩ p = true := told_long hl.1 hl.2.1 hl.2.2
        rw [e]
        exact told_long_r b v t p w h1 h2 h3 h4 hd hq hf hl.1 hl.2.1 hl.2.2
      · have e : told b ⟨true, v, t⟩ p = false := told_not rfl hf hl
        rw [e]
        by_cases q1 : 0 < b.quiet
        · by_cases q2 : t ≤ p.t
          · exact told_soon_r b v t p w h1 h2 h3 h4 hd hq hf q1 q2 (fun q3 => hl ⟨q1, q2, q3⟩)
          · exact told_back_r b v t p w h1 h2 h3 h4 hd hq hf q1 q2
        · exact told_calm_r b v t p w h1 h2 h3 h4 hd hq hf q1

set_option maxHeartbeats 1000000 in
theorem rstep_any (b : Band) (h : Held) (p : Point) (w : World) (h1 : I64 p.v) (h2 : I64 h.v) (h3 : I64 p.t) (h4 : I64 h.t) (hd : I64 b.dead) (hq : I64 b.quiet) :
    Calls Try.prog 10 #[.agg #[.int .i64 b.dead, .int .i64 b.quiet], .agg #[.bool h.has, .int .i64 h.v, .int .i64 h.t], .agg #[.int .i64 p.v, .int .i64 p.t]] w (StepBack w (next b h p) (told b h p)) := by
  have HT := Lib.hid (fun W => told_any b h p W h1 h2 h3 h4 hd hq)
  clear h1 h2 h3 h4 hd hq
  cases htold : told b h p with
  | true =>
    rw [htold] at HT
    have hn : next b h p = ⟨true, p.v, p.t⟩ := by unfold next; rw [htold, if_pos rfl]
    rw [hn]
    clear htold hn
    go_enter Try.func10, Try.ntmps10
    go_wp2_with fail
    refine (HT.out _).mono ?_
    rintro e w1 ⟨rfl, hb1⟩
    have B0 := ((Blk.new _ _ _).alloc _).below hb1 (by first | omega | (simp; done) | (simp; omega) | (simp at *; omega))
    have B1 := (Blk.new _ _ _).below hb1 (by first | omega | (simp; done) | (simp; omega) | (simp at *; omega))
    have hw1 := hb1.size; try simp only [World.size_alloc] at hw1
    simp only [World.size_alloc] at B0 B1
    obtain ⟨c0, c1, c2, c3⟩ := B0.two
    obtain ⟨d0, d1, d2, d3, d4, d5⟩ := B1.three
    go_wp2_with fail
    refine bodyPost_ret (v := .tuple #[.agg #[.bool true, .int .i64 p.v, .int .i64 p.t], .bool true]) ?_ ?_ ?_
    · simp [results, Try.results10, go_sem, d0, d1, d2]
    · rfl
    · exact ⟨rfl, by (repeat (first | (with_reducible assumption) | (with_reducible exact Below.refl _ _) | ((with_reducible refine Below.setCell ?_ ?_ _); rotate_left; · (first | omega | (simp; done) | (simp; omega) | (simp at *; omega))) | ((with_reducible refine Below.alloc ?_ ?_ _); rotate_left; · (first | omega | (simp; done) | (simp; omega) | (simp at *; omega))) | (with_reducible refine Below.drew ?_) | (with_reducible refine below_drewN ?_ _) | ((refine Below.trans ?_ (Below.mono (by with_reducible assumption) ?_)); rotate_left; · (first | omega | (simp; done) | (simp; omega) | (simp at *; omega)))))⟩
  | false =>
    rw [htold] at HT
    have hn : next b h p = h := by unfold next; rw [htold, if_neg (by simp)]
    rw [hn]
    clear htold hn
    go_enter Try.func10, Try.ntmps10
    go_wp2_with fail
    refine (HT.out _).mono ?_
    rintro e w1 ⟨rfl, hb1⟩
    have B0 := (((Blk.new _ _ _).alloc _).alloc _).below hb1 (by first | omega | (simp; done) | (simp; omega) | (simp at *; omega))
    have B1 := (Blk.new _ _ _).below hb1 (by first | omega | (simp; done) | (simp; omega) | (simp at *; omega))
    have hw1 := hb1.size; try simp only [World.size_alloc] at hw1
    simp only [World.size_alloc] at B0 B1
    obtain ⟨c0, c1, c2, c3, c4, c5⟩ := B0.three
    obtain ⟨d0, d1, d2, d3, d4, d5⟩ := B1.three
    go_wp2_with fail
    refine bodyPost_ret (v := .tuple #[.agg #[.bool h.has, .int .i64 h.v, .int .i64 h.t], .bool false]) ?_ ?_ ?_
    · simp [results, Try.results10, go_sem, d0, d1, d2]
    · rfl
    · exact ⟨rfl, by (repeat (first | (with_reducible assumption) | (with_reducible exact Below.refl _ _) | ((with_reducible refine Below.setCell ?_ ?_ _); rotate_left; · (first | omega | (simp; done) | (simp; omega) | (simp at *; omega))) | ((with_reducible refine Below.alloc ?_ ?_ _); rotate_left; · (first | omega | (simp; done) | (simp; omega) | (simp at *; omega))) | (with_reducible refine Below.drew ?_) | (with_reducible refine below_drewN ?_ _) | ((refine Below.trans ?_ (Below.mono (by with_reducible assumption) ?_)); rotate_left; · (first | omega | (simp; done) | (simp; omega) | (simp at *; omega)))))⟩
end Go.Proofs.Ytjidfcogcgaclaa
