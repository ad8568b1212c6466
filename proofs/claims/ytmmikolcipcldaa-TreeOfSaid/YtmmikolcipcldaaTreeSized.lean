/-
  What is proved here: whether a page that is given has as many keys, values and kids as it may have (the document's sized). Conditions: each theorem's own.
-/
import Derived.Test.YtmmikolcipcldaaTreeMade
namespace Go.Proofs.Ytmmikolcipcldaa
open Go.RowKit Go.Deep

set_option maxRecDepth 100000 in
set_option maxHeartbeats 4000000 in
theorem sized_any {d : Nat} {n : NdR} {K V C : Option Addr} {q1 q2 q3 : Nat} (hd2 : 2 ≤ d) (hd : d ≤ 16) (hf : n.ks.length ≤ 140737488351232 ∧ n.vs.length ≤ 140737488351232 ∧ n.kids.length ≤ 140737488351232) (root : Bool) (w : World) :
    Calls Try.prog 52 #[.agg #[.slice K n.ks.length q1, .slice V n.vs.length q2, .slice C n.kids.length q3], .bool root, .int .i64 d] w fun e w' => e = .returned (.bool (okNd d root n)) ∧ Below w.heap.size w w' := by
  obtain ⟨hf1, hf2, hf3⟩ := hf
  have hb0 : Below w.heap.size w (w.alloc (.cells #[.slice K n.ks.length q1, .slice V n.vs.length q2, .slice C n.kids.length q3] 60)) := (Below.refl _ _).alloc (Nat.le_refl _) _
  have hB := Blk.new w 60 #[.slice K n.ks.length q1, .slice V n.vs.length q2, .slice C n.kids.length q3]
  have hwd : IntKind.i64.wrap ((d : Int) - 1) = (d : Int) - 1 := IntWalk.i64_in _ (by omega)
  obtain ⟨m, hm⟩ : ∃ m : Nat, m = if root then 1 else d - 1 := ⟨_, rfl⟩
  have HM := Lib.hid hm
  have HD := Lib.hid (And.intro hd2 hd)
  obtain ⟨w0, hw0⟩ : ∃ w0 : World, w0 = w.alloc (.cells #[.slice K n.ks.length q1, .slice V n.vs.length q2, .slice C n.kids.length q3] 60) := ⟨_, rfl⟩
  rw [← hw0] at hb0 hB
  obtain ⟨q, hq⟩ : ∃ q, q = okNd d root n := ⟨_, rfl⟩
  rw [← hq]
  have HQ := Lib.hid hq
  have HBL := Lib.hid hb0
  have HB := Lib.hid hB
  clear hm hq hb0 hB hd2
  go_enter Try.func52, Try.ntmps52
  go_upto_if 10 with fail
  rw [← hw0]
  clear hw0
  go_cut [7] (fun s wz => s = .int .i64 m ∧ w0 = wz)
  case first =>
    cases root
    · go_wp2_with fail
      go_meet
      exact ⟨by rw [HM.out, if_neg (by simp)]; have := HD.out; congr 1; omega, rfl⟩
    · go_wp2_with fail
      go_meet
      exact ⟨by rw [HM.out]; rfl, rfl⟩
  obtain ⟨rfl, rfl⟩ := hcut
  have hq2 : q = (decide (m ≤ n.ks.length) && (decide (n.ks.length ≤ 2 * d - 1) && (decide (n.vs.length = n.ks.length) && decide (n.kids.length = 0 ∨ n.kids.length = n.ks.length + 1)))) := by rw [HQ.out, HM.out]; rfl
  have c0 : w0.cell? ⟨w.heap.size, 0, none⟩ = some (.slice K n.ks.length q1) := HB.out.cell 0
  have c1 : w0.cell? ⟨w.heap.size, 1, none⟩ = some (.slice V n.vs.length q2) := HB.out.cell 1
  have c2 : w0.cell? ⟨w.heap.size, 2, none⟩ = some (.slice C n.kids.length q3) := HB.out.cell 2
  clear HM HQ HB hwd
  have hdd := HD.out.1
  have hw1 : IntKind.i64.wrap (2 * (d : Int)) = 2 * (d : Int) := IntWalk.i64_in _ (by omega)
  have hw2 : IntKind.i64.wrap (2 * (d : Int) - 1) = 2 * (d : Int) - 1 := IntWalk.i64_in _ (by omega)
  have hw3 : IntKind.i64.wrap ((n.ks.length : Int) + 1) = (n.ks.length : Int) + 1 := IntWalk.i64_in _ (by omega)
  by_cases k1 : m ≤ n.ks.length
  · have g1 : (m : Int) ≤ (n.ks.length : Int) := by omega
    by_cases k2 : n.ks.length ≤ 2 * d - 1
    · have g2 : (n.ks.length : Int) ≤ 2 * (d : Int) - 1 := by omega
      by_cases k3 : n.vs.length = n.ks.length
      · have g3 : ((n.vs.length : Int) == (n.ks.length : Int)) = true := by rw [beq_iff_eq]; omega
        by_cases k4 : n.kids.length = 0
        · have g4 : ((n.kids.length : Int) == 0) = true := by rw [beq_iff_eq]; omega
          obtain rfl : q = true := by rw [hq2, decide_eq_true k1, decide_eq_true k2, decide_eq_true k3, decide_eq_true (.inl k4)]; rfl
          clear hq2 k1 k2 k3 k4 hdd
          go_wp2_with fail
          go_ret
          exact ⟨rfl, HBL.out⟩
        · have g4 : ((n.kids.length : Int) == 0) = false := by rw [beq_eq_false_iff_ne]; omega
          by_cases k5 : n.kids.length = n.ks.length + 1
          · have g5 : ((n.kids.length : Int) == (n.ks.length : Int) + 1) = true := by rw [beq_iff_eq]; omega
            obtain rfl : q = true := by rw [hq2, decide_eq_true k1, decide_eq_true k2, decide_eq_true k3, decide_eq_true (.inr k5)]; rfl
            clear hq2 k1 k2 k3 k4 k5 hdd
            go_wp2_with fail
            go_ret
            exact ⟨rfl, HBL.out⟩
          · have g5 : ((n.kids.length : Int) == (n.ks.length : Int) + 1) = false := by rw [beq_eq_false_iff_ne]; omega
            obtain rfl : q = false := by rw [hq2, decide_eq_false (show ¬ (n.kids.length = 0 ∨ n.kids.length = n.ks.length + 1) by omega)]; simp
            clear hq2 k1 k2 k3 k4 k5 hdd
            go_wp2_with fail
            go_ret
            exact ⟨rfl, HBL.out⟩
      · have g3 : ((n.vs.length : Int) == (n.ks.length : Int)) = false := by rw [beq_eq_false_iff_ne]; omega
        obtain rfl : q = false := by rw [hq2, decide_eq_false k3]; simp
        clear hq2 k1 k2 k3 hdd
        go_wp2_with fail
        go_ret
        exact ⟨rfl, HBL.out⟩
    · have g2 : ¬ (n.ks.length : Int) ≤ 2 * (d : Int) - 1 := by omega
      obtain rfl : q = false := by rw [hq2, decide_eq_false k2]; simp
      clear hq2 k1 k2 hdd
      go_wp2_with fail
      go_ret
      exact ⟨rfl, HBL.out⟩
  · have g1 : ¬ (m : Int) ≤ (n.ks.length : Int) := by omega
    obtain rfl : q = false := by rw [hq2, decide_eq_false k1]; simp
    clear hq2 k1 hdd
    go_wp2_with fail
    go_ret
    exact ⟨rfl, HBL.out⟩
end Go.Proofs.Ytmmikolcipcldaa
