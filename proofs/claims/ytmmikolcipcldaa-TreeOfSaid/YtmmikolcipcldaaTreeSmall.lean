/-
  What is proved here: a new tree; how many keys there are; the laws' keys (chapter 15). Conditions: each theorem's own.
-/
import Derived.Test.YtmmikolcipcldaaTreeSame
namespace Go.Proofs.Ytmmikolcipcldaa
open Go.RowKit Go.Deep

theorem new_any (d : Nat) (w : World) (hd2 : 2 ≤ d) (hd : d ≤ 16) :
    Calls Try.prog 10 #[.int .i64 d] w fun e w' => e = .returned (.tuple #[.pointer (some ⟨w.heap.size, 0, none⟩), .int .i64 0]) ∧ w' = w.alloc (.cells #[.int .i64 d, .pointer none, .int .i64 0] 71) := by
  have h1 : ¬ (d : Int) < 2 := by omega
  have h2 : ¬ (16 : Int) < (d : Int) := by omega
  go_enter Try.func10, Try.ntmps10
  go_wp2_with fail
  go_ret2
  exact ⟨rfl, rfl⟩
theorem new_no (d : Int) (w : World) (hd : d < 2 ∨ 16 < d) :
    Calls Try.prog 10 #[.int .i64 d] w fun e w' => e = .returned (.tuple #[.pointer none, .int .i64 3]) ∧ w' = w := by
  by_cases h1 : d < 2
  · go_enter Try.func10, Try.ntmps10
    go_wp2_with fail
    go_ret2
    exact ⟨rfl, rfl⟩
  · have h2 : (16 : Int) < d := by omega
    clear hd
    go_enter Try.func10, Try.ntmps10
    go_wp2_with fail
    go_ret2
    exact ⟨rfl, rfl⟩
theorem new_tree {d : Nat} {w w' : World} (hw : w' = w.alloc (.cells #[.int .i64 d, .pointer none, .int .i64 0] 71)) : Tree (w.heap.size + 1) w' (fun _ => none) w.heap.size d [] := by
  subst hw
  exact ⟨TH.none _ _, by simp, Nat.lt_succ_self _, List.Pairwise.nil, none, Blk.new _ _ _, .inl ⟨rfl, rfl⟩⟩
theorem len_any {B : Nat} {w : World} {M : Nat → Option Pg} {tr d : Nat} {es : List En} (hT : Tree B w M tr d es) :
    Calls Try.prog 28 #[.pointer (some ⟨tr, 0, none⟩)] w fun e w' => e = .returned (.int .i64 es.length) ∧ w' = w := by
  obtain ⟨root, hat, _⟩ := hT.at_
  have t2 : w.cell? ⟨tr, 2, none⟩ = some (.int .i64 es.length) := hat.cell 2
  clear hat hT
  go_enter Try.func28, Try.ntmps28
  go_wp2_with fail
  go_ret
  exact ⟨rfl, rfl⟩
theorem key_any (t s : Int) (w : World) :
    Calls Try.prog 26 #[.int .i64 t, .int .i64 s] w fun e w' => e = .returned (.agg #[.int .i64 t, .int .i64 s]) ∧ Below w.heap.size w w' := by
  go_enter Try.func26, Try.ntmps26
  go_wp2_with fail
  refine bodyPost_ret (v := .agg #[.int .i64 t, .int .i64 s]) ?_ rfl ⟨rfl, by (repeat (first | (with_reducible assumption) | (with_reducible exact Below.refl _ _) | ((with_reducible refine Below.setCell ?_ ?_ _); rotate_left; · (first | omega | (simp; done) | (simp; omega) | (simp at *; omega))) | ((with_reducible refine Below.alloc ?_ ?_ _); rotate_left; · (first | omega | (simp; done) | (simp; omega) | (simp at *; omega))) | (with_reducible refine Below.drew ?_) | (with_reducible refine below_drewN ?_ _) | ((refine Below.trans ?_ (Below.mono (by with_reducible assumption) ?_)); rotate_left; · (first | omega | (simp; done) | (simp; omega) | (simp at *; omega)))))⟩
  simp [results, Try.results26, go_sem]
def kLeast : Ky := ⟨-9223372036854775808, -9223372036854775808⟩
def kGreat : Ky := ⟨9223372036854775807, 9223372036854775807⟩
theorem least_any (w : World) : Calls Try.prog 18 #[] w fun e w' => e = .returned (.agg kLeast.cells) ∧ Below w.heap.size w w' := by
  go_enter Try.func18, Try.ntmps18
  go_wp2_with (go_at_call 26; refine (key_any _ _ _).mono ?_; rintro e w1 ⟨rfl, hb1⟩; have hB := (Blk.new w 24 #[.int .i64 0, .int .i64 0]).below hb1 (by simp); obtain ⟨c0, c1, f0, f1⟩ := hB.two; have hz := hb1.size; simp only [World.size_alloc] at hz)
  refine bodyPost_ret (v := .agg kLeast.cells) ?_ rfl ⟨rfl, by (repeat (first | (with_reducible assumption) | (with_reducible exact Below.refl _ _) | ((with_reducible refine Below.setCell ?_ ?_ _); rotate_left; · (first | omega | (simp; done) | (simp; omega) | (simp at *; omega))) | ((with_reducible refine Below.alloc ?_ ?_ _); rotate_left; · (first | omega | (simp; done) | (simp; omega) | (simp at *; omega))) | (with_reducible refine Below.drew ?_) | (with_reducible refine below_drewN ?_ _) | ((refine Below.trans ?_ (Below.mono (by with_reducible assumption) ?_)); rotate_left; · (first | omega | (simp; done) | (simp; omega) | (simp at *; omega)))))⟩
  have g1 := (hB.set_ 0 (.int .i64 kLeast.t)).two.1
  have g2 := ((hB.set_ 0 (.int .i64 kLeast.t)).set_ 1 (.int .i64 kLeast.s)).two.2.1
  simp only [kLeast] at g1 g2
  simp [results, Try.results18, go_sem, g1, g2, kLeast, Ky.cells]
theorem greatest_any (w : World) : Calls Try.prog 19 #[] w fun e w' => e = .returned (.agg kGreat.cells) ∧ Below w.heap.size w w' := by
  go_enter Try.func19, Try.ntmps19
  go_wp2_with (go_at_call 26; refine (key_any _ _ _).mono ?_; rintro e w1 ⟨rfl, hb1⟩; have hB := (Blk.new w 24 #[.int .i64 0, .int .i64 0]).below hb1 (by simp); obtain ⟨c0, c1, f0, f1⟩ := hB.two; have hz := hb1.size; simp only [World.size_alloc] at hz)
  refine bodyPost_ret (v := .agg kGreat.cells) ?_ rfl ⟨rfl, by (repeat (first | (with_reducible assumption) | (with_reducible exact Below.refl _ _) | ((with_reducible refine Below.setCell ?_ ?_ _); rotate_left; · (first | omega | (simp; done) | (simp; omega) | (simp at *; omega))) | ((with_reducible refine Below.alloc ?_ ?_ _); rotate_left; · (first | omega | (simp; done) | (simp; omega) | (simp at *; omega))) | (with_reducible refine Below.drew ?_) | (with_reducible refine below_drewN ?_ _) | ((refine Below.trans ?_ (Below.mono (by with_reducible assumption) ?_)); rotate_left; · (first | omega | (simp; done) | (simp; omega) | (simp at *; omega)))))⟩
  have g1 := (hB.set_ 0 (.int .i64 kGreat.t)).two.1
  have g2 := ((hB.set_ 0 (.int .i64 kGreat.t)).set_ 1 (.int .i64 kGreat.s)).two.2.1
  simp only [kGreat] at g1 g2
  simp [results, Try.results19, go_sem, g1, g2, kGreat, Ky.cells]
end Go.Proofs.Ytmmikolcipcldaa
