/-
  What is proved here: a value is put into a list at a place (the tree's put). Conditions: each theorem's own.
-/
import Derived.Test.YtmmikolcipcldaaTreeRow
import Derived.RegionTactic
import Derived.BigRegion
import Derived.Deep.RegionHeld3
namespace Go.Proofs.Ytmmikolcipcldaa
open Go.RowKit Go.Deep

theorem wpList_append_run {P : Program} {w w' : World} {ops : Array Oper} {rest : List Oper} {o : Oper} {a : Act} {Q : Exit → Act → World → Prop} {v v1 v2 : Value} (hgd : o.guard = none) (s x : Operand) (t : TypeId)
    (ho : o.op = .call { callee := .builtin .append, args := #[s, x], argTypes := #[t, t] }) (hs : a.eval s = v1) (hx : a.eval x = v2) (hr : (Builtin.append_ #[t, t] o.type #[v1, v2]).run P w = .ok v w')
    (h : wpList P ops Q rest (a.put o.dst v) w') : wpList P ops Q (o :: rest) a w := by
  refine wpList_plain hgd fun K hK => ?_
  unfold Oper.wp execOp
  simp only [ho, resolve, invoke, builtin, Sem.run_bind, Sem.run_pure, Result.andThen_ok, List.map_toArray, List.map_cons, List.map_nil, hs, hx, hr]
  exact hK _ _ h

theorem infoI : (Try.prog.info? 3).map (fun i => (i.zero, i.size, i.bytes)) = some (some (.int .i64 0), 1, 8) := by kernel_rfl
theorem infoK : (Try.prog.info? 24).map (fun i => (i.zero, i.size, i.bytes)) = some (some (.agg #[.int .i64 0, .int .i64 0]), 2, 16) := by kernel_rfl
theorem infoP : (Try.prog.info? 69).map (fun i => (i.zero, i.size, i.bytes)) = some (some (.pointer none), 1, 8) := by kernel_rfl

theorem ins_v (vs : List Int) (i : Nat) (x : Int) : vcells (insAt vs i x) = (vcells vs).take (i * 1) ++ [Value.int .i64 x] ++ (vcells vs).drop (i * 1) := by simp [vcells, insAt, List.map_take, List.map_drop]
theorem ins_p (vs : List Nat) (i : Nat) (x : Nat) : pcells (insAt vs i x) = (pcells vs).take (i * 1) ++ [Value.pointer (some ⟨x, 0, none⟩)] ++ (pcells vs).drop (i * 1) := by simp [pcells, insAt, List.map_take, List.map_drop]
theorem kcells_app (a b : List Ky) : kcells (a ++ b) = kcells a ++ kcells b := by simp [kcells]
theorem kcells_take : ∀ (ks : List Ky) (i : Nat), kcells (ks.take i) = (kcells ks).take (i * 2)
  | ks, 0 => by simp [kcells]
  | [], i + 1 => by simp [kcells]
  | k :: ks, i + 1 => by
    show k.cells.toList ++ kcells (ks.take i) = (k.cells.toList ++ kcells ks).take ((i + 1) * 2)
    rw [kcells_take ks i, List.take_append, show k.cells.toList.length = 2 from rfl, show (i + 1) * 2 - 2 = i * 2 by omega, List.take_of_length_le (show k.cells.toList.length ≤ (i + 1) * 2 by show 2 ≤ _; omega)]
theorem kcells_drop : ∀ (ks : List Ky) (i : Nat), kcells (ks.drop i) = (kcells ks).drop (i * 2)
  | ks, 0 => by simp
  | [], i + 1 => by simp [kcells]
  | k :: ks, i + 1 => by
    show kcells (ks.drop i) = (k.cells.toList ++ kcells ks).drop ((i + 1) * 2)
    rw [kcells_drop ks i, List.drop_append, show k.cells.toList.length = 2 from rfl, show (i + 1) * 2 - 2 = i * 2 by omega, List.drop_of_length_le (show k.cells.toList.length ≤ (i + 1) * 2 by show 2 ≤ _; omega), List.nil_append]
theorem ins_k (ks : List Ky) (i : Nat) (k : Ky) : kcells (insAt ks i k) = (kcells ks).take (i * 2) ++ [Value.int .i64 k.t, Value.int .i64 k.s] ++ (kcells ks).drop (i * 2) := by
  unfold insAt
  rw [kcells_app, kcells_take, List.append_assoc, ← kcells_drop]
  rfl
theorem insAt_end {α : Type} (l : List α) (x : α) : insAt l l.length x = l ++ [x] := by simp [insAt]
/-- what putting at a place leaves. -/
def PutAt (w : World) (g c : Nat) (t : TypeId) (size n : Nat) (ys : List Value) (e : Ending) (w' : World) : Prop :=
  ∃ g' c', e = .returned (.slice (some ⟨g', 0, none⟩) n c') ∧ 0 < c' ∧ RowAt w' g' t size n c' ys ∧ w.grownBy w' (rowOf? g c) ∧ ((0 < c ∧ g' = g) ∨ w.heap.size ≤ g')

set_option maxRecDepth 100000 in
set_option maxHeartbeats 2000000 in
theorem putI_any (g c : Nat) (vs : List Int) (i : Nat) (x : Int) (w : World) (hr : RowAt w g 3 1 vs.length c (vcells vs)) (hi : i ≤ vs.length) (hlen : vs.length ≤ 1000) :
    Calls Try.prog 48 #[sl g vs.length c, .int .i64 (i : Nat), .int .i64 x] w (PutAt w g c 3 1 (vs.length + 1) (vcells (insAt vs i x))) := by
  obtain ⟨i0, hi0, hz0, hz1, hz2⟩ := info_parts infoI
  have hb0 : Below w.heap.size w (w.alloc (.cells #[.int .i64 x] 3)) := (Below.refl _ _).alloc (Nat.le_refl _) _
  obtain ⟨g', c', w1, sp, hrun, hc', hnc', hblk, hsz, hgrow, hsame⟩ := run_append_row (P := Try.prog) (w.alloc (.cells #[.int .i64 x] 3)) 58 58 3 i0 _ 1 8 Try.underlying58 hi0 hz0 hz1 hz2 rfl g vs.length c (vcells vs) (hr.on hb0)
    ⟨w.heap.size, 0, none⟩ 1 1 (by omega) [.int .i64 x] rfl (World.news_of_block (cs := #[.int .i64 x]) (t := 3) (fr := (0, 0)) (heap_alloc_new w _)) (by simp [Value.oneCell']) (by unfold maxLen; omega) (by omega)
  go_enter Try.func48, Try.ntmps48
  go_wp2_with (at_builtin; refine wpList_append_run rfl (.tmp 7) (.tmp 9) 58 rfl rfl rfl hrun ?_)
  have hgw : w.grownBy w1 (rowOf? g c) := grown_after hb0 hgrow
  have hsm : rowOf? g c = some g' ∨ w.heap.size ≤ g' := by
    rcases hsame with ⟨h1, h2⟩ | h1
    · exact .inl (by unfold rowOf?; rw [if_pos h1, h2])
    · exact .inr (by rw [World.size_alloc] at h1; omega)
  have hsam : (0 < c ∧ g' = g) ∨ w.heap.size ≤ g' := by
    rcases hsame with h1 | h1
    · exact .inl h1
    · exact .inr (by rw [World.size_alloc] at h1; omega)
  have hone : ∀ v ∈ vcells vs, v.oneCell' = true := fun v hv => by obtain ⟨z, _, rfl⟩ := List.mem_map.1 hv; rfl
  have hvl : (vcells vs).length = vs.length * 1 := by simp [vcells]
  have e1 : IntKind.i64.wrap ((i : Int) + 1) = (i : Int) + 1 := IntWalk.i64_in _ (by omega)
  have k1 : (0 : Int) ≤ (i : Int) + 1 := by omega
  have k2 : (i : Int) + 1 ≤ (c' : Int) := by omega
  have k2' : (i : Int) + 1 ≤ ((vs.length + 1 : Nat) : Int) := by omega
  have k3 : ((i : Int) + 1).toNat = i + 1 := by omega
  have k4 : (i : Int) ≤ (c' : Int) := by omega
  have k4' : (i : Int) ≤ ((vs.length + 1 : Nat) : Int) := by omega
  have k4'' : (i : Int) < ((vs.length + 1 : Nat) : Int) := by omega
  have k5 : (0 : Int) ≤ (i : Int) := by omega
  have k6 : (i : Int) ≤ (vs.length : Int) + 1 := by omega
  have k7 : i ≤ vs.length + 1 := by omega
  have k8 : i ≤ c' := by omega
  have n1 : ¬ c' = i := by omega
  by_cases hin : i < vs.length
  · have n2 : ¬ c' = i + 1 := by omega
    obtain ⟨w2, Y, hcp, hY, hb2, hg2⟩ := copy_shift (P := Try.prog) w1.drew 58 3 3 1 vs.length i g' (i + 1) i (c' - (i + 1)) (c' - i) (vs.length - i) (vs.length + 1 - i) (vcells vs) [.int .i64 x] sp Try.underlying58 (by rw [hi0]; exact congrArg some hz1) hvl rfl hin hblk hone (by omega) (by omega) rfl rfl
    obtain ⟨y, rfl⟩ : ∃ y, Y = [y] := List.length_eq_one_iff.1 hY
    have htl : ((vcells vs).take (i * 1)).length = i := by rw [List.length_take, hvl]; omega
    have c2 : w2.cell? ⟨g', i, none⟩ = some y := by rw [hb2.cell]; exact mid_at htl.symm
    have f2 := hb2.frozen i
    have hb3 := hb2.set_ i (.int .i64 x)
    rw [set_mid (by rw [htl])] at hb3
    have hgg : w.grownBy (w2.setCell ⟨g', i, none⟩ (.int .i64 x)) (rowOf? g c) := grown_set (grown_join hgw (show w1.grownBy w2 (some g') from ⟨hg2.os, hg2.tape, hg2.output, hg2.size, hg2.block⟩) hsm) hsm
    have HB := Lib.hid hb3
    have HG := Lib.hid hgg
    have HS := Lib.hid hsz
    clear hb2 hg2 hb3 hgg hgw hgrow hrun hblk hsz hsame hb0
    go_region_held3 (fun _ => True) (trivial) (fail)
    go_wp2_with fail
    go_ret
    refine ⟨g', c', rfl, hc', ⟨hnc', ?_, fun _ => ⟨_, HB.out, ?_, ?_⟩⟩, HG.out, hsam⟩
    · simp [vcells, insAt_len]
    · have := HS.out; simp [vcells] at this ⊢; omega
    · rw [ins_v, List.toList_toArray]
      exact take_row (by rw [← ins_v]; simp [vcells, insAt_len])
  · obtain rfl : i = vs.length := by omega
    have hcp : ∀ d dc a sl sc, (Builtin.copy_ #[58, 58] 3 #[.slice d 0 dc, .slice a sl sc]).run Try.prog w1.drew = .ok (goInt 0) w1.drew := fun d dc a sl sc => run_copy_no w1.drew _ _ _ 3 1 d a 0 dc sl sc Try.underlying58 (by rw [hi0]; exact congrArg some hz1) (Nat.min_zero _)
    have c2 : w1.drew.cell? ⟨g', vs.length, none⟩ = some (.int .i64 x) := by rw [hblk.drew.cell]; exact mid_at (by simp [vcells])
    have f2 := hblk.drew.frozen vs.length
    have hb3 := hblk.drew.set_ vs.length (.int .i64 x)
    rw [set_mid (by simp [vcells])] at hb3
    have hgg : w.grownBy (w1.drew.setCell ⟨g', vs.length, none⟩ (.int .i64 x)) (rowOf? g c) := grown_set (show w.grownBy w1.drew (rowOf? g c) from ⟨hgw.os, hgw.tape, hgw.output, hgw.size, hgw.block⟩) hsm
    have HB := Lib.hid hb3
    have HG := Lib.hid hgg
    have HS := Lib.hid hsz
    have HQ := Lib.hid (show PutAt w g c 3 1 (vs.length + 1) (vcells (insAt vs vs.length x)) (.returned (.slice (some ⟨g', 0, none⟩) (vs.length + 1) c')) (w1.drew.setCell ⟨g', vs.length, none⟩ (.int .i64 x)) from
      ⟨g', c', rfl, hc', ⟨hnc', by simp [vcells, insAt_len], fun _ => ⟨_, HB.out, by have := HS.out; simpa using this, by
        rw [show vcells (insAt vs vs.length x) = vcells vs ++ [.int .i64 x] by rw [insAt_end]; simp [vcells], List.toList_toArray]
        exact List.take_left' (by simp [vcells])⟩⟩, HG.out, hsam⟩)
    clear hb3 hgg hgw hgrow hrun hblk hsz hsame hb0 HB HG HS
    by_cases n2 : c' = vs.length + 1
    · subst n2
      go_region_held3 (fun _ => True) (trivial) (fail)
      go_wp2_with fail
      go_ret
      exact HQ.out
    · go_region_held3 (fun _ => True) (trivial) (fail)
      go_wp2_with fail
      go_ret
      exact HQ.out
set_option maxRecDepth 100000 in
set_option maxHeartbeats 2000000 in
theorem putP_any (g c : Nat) (vs : List Nat) (i : Nat) (x : Nat) (w : World) (hr : RowAt w g 69 1 vs.length c (pcells vs)) (hi : i ≤ vs.length) (hlen : vs.length ≤ 1000) :
    Calls Try.prog 54 #[sl g vs.length c, .int .i64 (i : Nat), .pointer (some ⟨x, 0, none⟩)] w (PutAt w g c 69 1 (vs.length + 1) (pcells (insAt vs i x))) := by
  obtain ⟨i0, hi0, hz0, hz1, hz2⟩ := info_parts infoP
  have hb0 : Below w.heap.size w (w.alloc (.cells #[.pointer (some ⟨x, 0, none⟩)] 69)) := (Below.refl _ _).alloc (Nat.le_refl _) _
  obtain ⟨g', c', w1, sp, hrun, hc', hnc', hblk, hsz, hgrow, hsame⟩ := run_append_row (P := Try.prog) (w.alloc (.cells #[.pointer (some ⟨x, 0, none⟩)] 69)) 80 80 69 i0 _ 1 8 Try.underlying80 hi0 hz0 hz1 hz2 rfl g vs.length c (pcells vs) (hr.on hb0)
    ⟨w.heap.size, 0, none⟩ 1 1 (by omega) [.pointer (some ⟨x, 0, none⟩)] rfl (World.news_of_block (cs := #[.pointer (some ⟨x, 0, none⟩)]) (t := 69) (fr := (0, 0)) (heap_alloc_new w _)) (by simp [Value.oneCell']) (by unfold maxLen; omega) (by omega)
  go_enter Try.func54, Try.ntmps54
  go_wp2_with (at_builtin; refine wpList_append_run rfl (.tmp 7) (.tmp 9) 80 rfl rfl rfl hrun ?_)
  have hgw : w.grownBy w1 (rowOf? g c) := grown_after hb0 hgrow
  have hsm : rowOf? g c = some g' ∨ w.heap.size ≤ g' := by
    rcases hsame with ⟨h1, h2⟩ | h1
    · exact .inl (by unfold rowOf?; rw [if_pos h1, h2])
    · exact .inr (by rw [World.size_alloc] at h1; omega)
  have hsam : (0 < c ∧ g' = g) ∨ w.heap.size ≤ g' := by
    rcases hsame with h1 | h1
    · exact .inl h1
    · exact .inr (by rw [World.size_alloc] at h1; omega)
  have hone : ∀ v ∈ pcells vs, v.oneCell' = true := fun v hv => by obtain ⟨z, _, rfl⟩ := List.mem_map.1 hv; rfl
  have hvl : (pcells vs).length = vs.length * 1 := by simp [pcells]
  have e1 : IntKind.i64.wrap ((i : Int) + 1) = (i : Int) + 1 := IntWalk.i64_in _ (by omega)
  have k1 : (0 : Int) ≤ (i : Int) + 1 := by omega
  have k2 : (i : Int) + 1 ≤ (c' : Int) := by omega
  have k2' : (i : Int) + 1 ≤ ((vs.length + 1 : Nat) : Int) := by omega
  have k3 : ((i : Int) + 1).toNat = i + 1 := by omega
  have k4 : (i : Int) ≤ (c' : Int) := by omega
  have k4' : (i : Int) ≤ ((vs.length + 1 : Nat) : Int) := by omega
  have k4'' : (i : Int) < ((vs.length + 1 : Nat) : Int) := by omega
  have k5 : (0 : Int) ≤ (i : Int) := by omega
  have k6 : (i : Int) ≤ (vs.length : Int) + 1 := by omega
  have k7 : i ≤ vs.length + 1 := by omega
  have k8 : i ≤ c' := by omega
  have n1 : ¬ c' = i := by omega
  by_cases hin : i < vs.length
  · have n2 : ¬ c' = i + 1 := by omega
    obtain ⟨w2, Y, hcp, hY, hb2, hg2⟩ := copy_shift (P := Try.prog) w1.drew 80 3 69 1 vs.length i g' (i + 1) i (c' - (i + 1)) (c' - i) (vs.length - i) (vs.length + 1 - i) (pcells vs) [.pointer (some ⟨x, 0, none⟩)] sp Try.underlying80 (by rw [hi0]; exact congrArg some hz1) hvl rfl hin hblk hone (by omega) (by omega) rfl rfl
    obtain ⟨y, rfl⟩ : ∃ y, Y = [y] := List.length_eq_one_iff.1 hY
    have htl : ((pcells vs).take (i * 1)).length = i := by rw [List.length_take, hvl]; omega
    have c2 : w2.cell? ⟨g', i, none⟩ = some y := by rw [hb2.cell]; exact mid_at htl.symm
    have f2 := hb2.frozen i
    have hb3 := hb2.set_ i (.pointer (some ⟨x, 0, none⟩))
    rw [set_mid (by rw [htl])] at hb3
    have hgg : w.grownBy (w2.setCell ⟨g', i, none⟩ (.pointer (some ⟨x, 0, none⟩))) (rowOf? g c) := grown_set (grown_join hgw (show w1.grownBy w2 (some g') from ⟨hg2.os, hg2.tape, hg2.output, hg2.size, hg2.block⟩) hsm) hsm
    have HB := Lib.hid hb3
    have HG := Lib.hid hgg
    have HS := Lib.hid hsz
    clear hb2 hg2 hb3 hgg hgw hgrow hrun hblk hsz hsame hb0
    go_region_held3 (fun _ => True) (trivial) (fail)
    go_wp2_with fail
    go_ret
    refine ⟨g', c', rfl, hc', ⟨hnc', ?_, fun _ => ⟨_, HB.out, ?_, ?_⟩⟩, HG.out, hsam⟩
    · simp [pcells, insAt_len]
    · have := HS.out; simp [pcells] at this ⊢; omega
    · rw [ins_p, List.toList_toArray]
      exact take_row (by rw [← ins_p]; simp [pcells, insAt_len])
  · obtain rfl : i = vs.length := by omega
    have hcp : ∀ d dc a sl sc, (Builtin.copy_ #[80, 80] 3 #[.slice d 0 dc, .slice a sl sc]).run Try.prog w1.drew = .ok (goInt 0) w1.drew := fun d dc a sl sc => run_copy_no w1.drew _ _ _ 69 1 d a 0 dc sl sc Try.underlying80 (by rw [hi0]; exact congrArg some hz1) (Nat.min_zero _)
    have c2 : w1.drew.cell? ⟨g', vs.length, none⟩ = some (.pointer (some ⟨x, 0, none⟩)) := by rw [hblk.drew.cell]; exact mid_at (by simp [pcells])
    have f2 := hblk.drew.frozen vs.length
    have hb3 := hblk.drew.set_ vs.length (.pointer (some ⟨x, 0, none⟩))
    rw [set_mid (by simp [pcells])] at hb3
    have hgg : w.grownBy (w1.drew.setCell ⟨g', vs.length, none⟩ (.pointer (some ⟨x, 0, none⟩))) (rowOf? g c) := grown_set (show w.grownBy w1.drew (rowOf? g c) from ⟨hgw.os, hgw.tape, hgw.output, hgw.size, hgw.block⟩) hsm
    have HB := Lib.hid hb3
    have HG := Lib.hid hgg
    have HS := Lib.hid hsz
    have HQ := Lib.hid (show PutAt w g c 69 1 (vs.length + 1) (pcells (insAt vs vs.length x)) (.returned (.slice (some ⟨g', 0, none⟩) (vs.length + 1) c')) (w1.drew.setCell ⟨g', vs.length, none⟩ (.pointer (some ⟨x, 0, none⟩))) from
      ⟨g', c', rfl, hc', ⟨hnc', by simp [pcells, insAt_len], fun _ => ⟨_, HB.out, by have := HS.out; simpa using this, by
        rw [show pcells (insAt vs vs.length x) = pcells vs ++ [.pointer (some ⟨x, 0, none⟩)] by rw [insAt_end]; simp [pcells], List.toList_toArray]
        exact List.take_left' (by simp [pcells])⟩⟩, HG.out, hsam⟩)
    clear hb3 hgg hgw hgrow hrun hblk hsz hsame hb0 HB HG HS
    by_cases n2 : c' = vs.length + 1
    · subst n2
      go_region_held3 (fun _ => True) (trivial) (fail)
      go_wp2_with fail
      go_ret
      exact HQ.out
    · go_region_held3 (fun _ => True) (trivial) (fail)
      go_wp2_with fail
      go_ret
      exact HQ.out
set_option maxRecDepth 100000 in
set_option maxHeartbeats 2000000 in
theorem putK_any (g c : Nat) (vs : List Ky) (i : Nat) (k : Ky) (w : World) (hr : RowAt w g 24 2 vs.length c (kcells vs)) (hi : i ≤ vs.length) (hlen : vs.length ≤ 1000) :
    Calls Try.prog 47 #[sl g vs.length c, .int .i64 (i : Nat), .agg k.cells] w (PutAt w g c 24 2 (vs.length + 1) (kcells (insAt vs i k))) := by
  obtain ⟨i0, hi0, hz0, hz1, hz2⟩ := info_parts infoK
  obtain ⟨kt, kk⟩ := k
  show Calls Try.prog _ #[sl g vs.length c, .int .i64 (i : Nat), .agg #[.int .i64 kt, .int .i64 kk]] w _
  have hb0 : Below w.heap.size w ((w.alloc (.cells #[.int .i64 kt, .int .i64 kk] 24)).alloc (.cells #[.int .i64 kt, .int .i64 kk] 24)) := by (repeat (first | (with_reducible assumption) | (with_reducible exact Below.refl _ _) | ((with_reducible refine Below.setCell ?_ ?_ _); rotate_left; · (first | omega | (simp; done) | (simp; omega) | (simp at *; omega))) | ((with_reducible refine Below.alloc ?_ ?_ _); rotate_left; · (first | omega | (simp; done) | (simp; omega) | (simp at *; omega))) | (with_reducible refine Below.drew ?_) | (with_reducible refine below_drewN ?_ _) | ((refine Below.trans ?_ (Below.mono (by with_reducible assumption) ?_)); rotate_left; · (first | omega | (simp; done) | (simp; omega) | (simp at *; omega)))))
  have hbx := (Blk.new w 24 #[.int .i64 kt, .int .i64 kk]).alloc (.cells #[.int .i64 kt, .int .i64 kk] 24)
  have hnw : ∀ (j : Nat) (u : Value), [Value.int .i64 kt, .int .i64 kk][j]? = some u → ((w.alloc (.cells #[.int .i64 kt, .int .i64 kk] 24)).alloc (.cells #[.int .i64 kt, .int .i64 kk] 24)).cell? ((⟨w.heap.size + 1, 0, none⟩ : Addr).add j) = some u := by
    have := World.news_of_block (cs := #[.int .i64 kt, .int .i64 kk]) (t := 24) (fr := (0, 0)) (heap_alloc_new (w.alloc (.cells #[.int .i64 kt, .int .i64 kk] 24)) (.cells #[.int .i64 kt, .int .i64 kk] 24))
    rw [World.size_alloc] at this
    exact this
  obtain ⟨g', c', w1, sp, hrun, hc', hnc', hblk, hsz, hgrow, hsame⟩ := run_append_row (P := Try.prog) ((w.alloc (.cells #[.int .i64 kt, .int .i64 kk] 24)).alloc (.cells #[.int .i64 kt, .int .i64 kk] 24)) 39 39 24 i0 _ 2 16 Try.underlying39 hi0 hz0 hz1 hz2 rfl g vs.length c (kcells vs) (hr.on hb0)
    ⟨w.heap.size + 1, 0, none⟩ 1 1 (by omega) [.int .i64 kt, .int .i64 kk] rfl hnw (by simp [Value.oneCell']) (by unfold maxLen; omega) (by omega)
  have hne1 : some w.heap.size ≠ rowOf? g c := by
    unfold rowOf?
    split
    · intro e; cases e; have := hr.lt (by omega); omega
    · simp
  have hne2 : w.heap.size ≠ g' := by
    rcases hsame with ⟨h1, h2⟩ | h1
    · have := hr.lt h1; omega
    · simp at h1; omega
  have hbx1 := (hbx.grown hgrow hne1).drew
  clear hbx hnw hne1
  go_enter Try.func47, Try.ntmps47
  go_wp2_with (at_builtin; refine wpList_append_run rfl (.tmp 7) (.tmp 9) 39 rfl rfl rfl hrun ?_)
  have hgw : w.grownBy w1 (rowOf? g c) := grown_after hb0 hgrow
  have hsm : rowOf? g c = some g' ∨ w.heap.size ≤ g' := by
    rcases hsame with ⟨h1, h2⟩ | h1
    · exact .inl (by unfold rowOf?; rw [if_pos h1, h2])
    · exact .inr (by simp at h1; omega)
  have hsam : (0 < c ∧ g' = g) ∨ w.heap.size ≤ g' := by
    rcases hsame with h1 | h1
    · exact .inl h1
    · exact .inr (by simp at h1; omega)
  have hone : ∀ v ∈ kcells vs, v.oneCell' = true := fun v hv => by obtain ⟨z, _, hz⟩ := List.mem_flatMap.1 hv; simp [Ky.cells] at hz; rcases hz with rfl | rfl <;> rfl
  have hvl : (kcells vs).length = vs.length * 2 := kcells_len vs
  have e1 : IntKind.i64.wrap ((i : Int) + 1) = (i : Int) + 1 := IntWalk.i64_in _ (by omega)
  have k1 : (0 : Int) ≤ (i : Int) + 1 := by omega
  have k2 : (i : Int) + 1 ≤ (c' : Int) := by omega
  have k2' : (i : Int) + 1 ≤ ((vs.length + 1 : Nat) : Int) := by omega
  have k3 : ((i : Int) + 1).toNat = i + 1 := by omega
  have k4 : (i : Int) ≤ (c' : Int) := by omega
  have k4' : (i : Int) ≤ ((vs.length + 1 : Nat) : Int) := by omega
  have k4'' : (i : Int) < ((vs.length + 1 : Nat) : Int) := by omega
  have k5 : (0 : Int) ≤ (i : Int) := by omega
  have k6 : (i : Int) ≤ (vs.length : Int) + 1 := by omega
  have k7 : i ≤ vs.length + 1 := by omega
  have k8 : i ≤ c' := by omega
  have n1 : ¬ c' = i := by omega
  by_cases hin : i < vs.length
  · have n2 : ¬ c' = i + 1 := by omega
    obtain ⟨w2, Y, hcp, hY, hb2, hg2⟩ := copy_shift (P := Try.prog) w1.drew 39 3 24 2 vs.length i g' ((i + 1) * 2) (i * 2) (c' - (i + 1)) (c' - i) (vs.length - i) (vs.length + 1 - i) (kcells vs) [.int .i64 kt, .int .i64 kk] sp Try.underlying39 (by rw [hi0]; exact congrArg some hz1) hvl rfl hin hblk hone rfl rfl rfl rfl
    obtain ⟨y, y2, rfl⟩ : ∃ y y2, Y = [y, y2] := by match Y, hY with | [y, y2], _ => exact ⟨y, y2, rfl⟩
    have htl : ((kcells vs).take (i * 2)).length = i * 2 := by rw [List.length_take, hvl]; omega
    have c2 : w2.cell? ⟨g', i * 2, none⟩ = some y := by rw [hb2.cell]; have := mid_at (A := (kcells vs).take (i * 2)) (y := y) (B := y2 :: ((kcells vs).drop (i * 2) ++ sp)) htl.symm; simpa using this
    have c3 : w2.cell? ⟨g', i * 2 + 1, none⟩ = some y2 := by rw [hb2.cell]; have := mid_at (A := (kcells vs).take (i * 2) ++ [y]) (y := y2) (B := (kcells vs).drop (i * 2) ++ sp) (i := i * 2 + 1) (by rw [List.length_append, htl]; rfl); simpa using this
    have f2 := hb2.frozen (i * 2)
    have f3 := hb2.frozen (i * 2 + 1)
    have hbx2 : Blk w2 w.heap.size 24 #[.int .i64 kt, .int .i64 kk] := hbx1.grown hg2 (fun e => hne2 (by cases e; rfl))
    have b0 : w2.cell? ⟨w.heap.size, 0, none⟩ = some (.int .i64 kt) := hbx2.cell 0
    have b1 : w2.cell? ⟨w.heap.size, 1, none⟩ = some (.int .i64 kk) := hbx2.cell 1
    have hb3 := (hb2.set_ (i * 2) (.int .i64 kt)).set_ (i * 2 + 1) (.int .i64 kk)
    rw [show (kcells vs).take (i * 2) ++ [y, y2] ++ ((kcells vs).drop (i * 2) ++ sp) = (kcells vs).take (i * 2) ++ [y] ++ (y2 :: ((kcells vs).drop (i * 2) ++ sp)) by simp, set_mid htl.symm,
      show (kcells vs).take (i * 2) ++ [Value.int .i64 kt] ++ (y2 :: ((kcells vs).drop (i * 2) ++ sp)) = ((kcells vs).take (i * 2) ++ [Value.int .i64 kt]) ++ [y2] ++ ((kcells vs).drop (i * 2) ++ sp) by simp, set_mid (by rw [List.length_append, htl]; rfl)] at hb3
    have hgg : w.grownBy ((w2.setCell ⟨g', i * 2, none⟩ (.int .i64 kt)).setCell ⟨g', i * 2 + 1, none⟩ (.int .i64 kk)) (rowOf? g c) := grown_set (grown_set (grown_join hgw (show w1.grownBy w2 (some g') from ⟨hg2.os, hg2.tape, hg2.output, hg2.size, hg2.block⟩) hsm) hsm) hsm
    clear hbx1 hbx2
    have HB := Lib.hid hb3
    have HG := Lib.hid hgg
    have HS := Lib.hid hsz
    clear hb2 hg2 hb3 hgg hgw hgrow hrun hblk hsz hsame hb0
    go_region_held3 (fun _ => True) (trivial) (fail)
    go_wp2_with fail
    go_ret
    refine ⟨g', c', rfl, hc', ⟨hnc', ?_, fun _ => ⟨_, HB.out, ?_, ?_⟩⟩, HG.out, hsam⟩
    · rw [kcells_len, insAt_len]
    · have := HS.out; rw [List.length_append, List.length_append, hvl] at this; simp only [List.size_toArray, List.length_append, htl, List.length_drop, hvl, List.length_cons, List.length_nil] at this ⊢; omega
    · rw [ins_k, List.toList_toArray]
      rw [show (kcells vs).take (i * 2) ++ [Value.int .i64 kt] ++ [Value.int .i64 kk] = (kcells vs).take (i * 2) ++ [Value.int .i64 kt, Value.int .i64 kk] by simp]
      exact take_row (by rw [← ins_k vs i ⟨kt, kk⟩, kcells_len, insAt_len])
  · obtain rfl : i = vs.length := by omega
    have hcp : ∀ d dc a sl sc, (Builtin.copy_ #[39, 39] 3 #[.slice d 0 dc, .slice a sl sc]).run Try.prog w1.drew = .ok (goInt 0) w1.drew := fun d dc a sl sc => run_copy_no w1.drew _ _ _ 24 2 d a 0 dc sl sc Try.underlying39 (by rw [hi0]; exact congrArg some hz1) (Nat.min_zero _)
    have c2 : w1.drew.cell? ⟨g', vs.length * 2, none⟩ = some (.int .i64 kt) := by rw [hblk.drew.cell]; have := mid_at (A := kcells vs) (y := .int .i64 kt) (B := Value.int .i64 kk :: sp) hvl.symm; simpa using this
    have c3 : w1.drew.cell? ⟨g', vs.length * 2 + 1, none⟩ = some (.int .i64 kk) := by rw [hblk.drew.cell]; have := mid_at (A := kcells vs ++ [.int .i64 kt]) (y := .int .i64 kk) (B := sp) (i := vs.length * 2 + 1) (by rw [List.length_append, hvl]; rfl); simpa using this
    have f2 := hblk.drew.frozen (vs.length * 2)
    have f3 := hblk.drew.frozen (vs.length * 2 + 1)
    have b0 : w1.drew.cell? ⟨w.heap.size, 0, none⟩ = some (.int .i64 kt) := hbx1.cell 0
    have b1 : w1.drew.cell? ⟨w.heap.size, 1, none⟩ = some (.int .i64 kk) := hbx1.cell 1
    have hb3 := (hblk.drew.set_ (vs.length * 2) (.int .i64 kt)).set_ (vs.length * 2 + 1) (.int .i64 kk)
    rw [show kcells vs ++ [Value.int .i64 kt, .int .i64 kk] ++ sp = kcells vs ++ [.int .i64 kt] ++ (.int .i64 kk :: sp) by simp, set_mid hvl.symm,
      show kcells vs ++ [Value.int .i64 kt] ++ (Value.int .i64 kk :: sp) = (kcells vs ++ [.int .i64 kt]) ++ [.int .i64 kk] ++ sp by simp, set_mid (by rw [List.length_append, hvl]; rfl)] at hb3
    have hgg : w.grownBy ((w1.drew.setCell ⟨g', vs.length * 2, none⟩ (.int .i64 kt)).setCell ⟨g', vs.length * 2 + 1, none⟩ (.int .i64 kk)) (rowOf? g c) := grown_set (grown_set (show w.grownBy w1.drew (rowOf? g c) from ⟨hgw.os, hgw.tape, hgw.output, hgw.size, hgw.block⟩) hsm) hsm
    clear hbx1
    have HB := Lib.hid hb3
    have HG := Lib.hid hgg
    have HS := Lib.hid hsz
    have HQ := Lib.hid (show PutAt w g c 24 2 (vs.length + 1) (kcells (insAt vs vs.length ⟨kt, kk⟩)) (.returned (.slice (some ⟨g', 0, none⟩) (vs.length + 1) c')) ((w1.drew.setCell ⟨g', vs.length * 2, none⟩ (.int .i64 kt)).setCell ⟨g', vs.length * 2 + 1, none⟩ (.int .i64 kk)) from
      ⟨g', c', rfl, hc', ⟨hnc', by rw [kcells_len, insAt_len], fun _ => ⟨_, HB.out, by have := HS.out; simpa [hvl] using this, by
        rw [show kcells (insAt vs vs.length ⟨kt, kk⟩) = kcells vs ++ [.int .i64 kt] ++ [.int .i64 kk] by rw [insAt_end, kcells_app, List.append_assoc]; rfl, List.toList_toArray]
        exact List.take_left' (by rw [List.length_append, List.length_append, hvl]; show vs.length * 2 + 1 + 1 = _; omega)⟩⟩, HG.out, hsam⟩)
    clear hb3 hgg hgw hgrow hrun hblk hsz hsame hb0 HB HG HS
    by_cases n2 : c' = vs.length + 1
    · subst n2
      go_region_held3 (fun _ => True) (trivial) (fail)
      obtain ⟨wd, hwd⟩ : ∃ wd, wd = w1.drew := ⟨_, rfl⟩
      rw [← hwd] at c2 c3 f2 f3 b0 b1 HQ ⊢
      clear hwd hcp
      go_wp2_with fail
      go_ret
      exact HQ.out
    · go_region_held3 (fun _ => True) (trivial) (fail)
      obtain ⟨wd, hwd⟩ : ∃ wd, wd = w1.drew := ⟨_, rfl⟩
      rw [← hwd] at c2 c3 f2 f3 b0 b1 HQ ⊢
      clear hwd hcp
      go_wp2_with fail
      go_ret
      exact HQ.out
end Go.Proofs.Ytmmikolcipcldaa
