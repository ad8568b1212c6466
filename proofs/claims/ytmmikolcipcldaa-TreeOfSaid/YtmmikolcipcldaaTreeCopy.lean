/-
  What is proved here: lists of keys and of numbers are copied into memory of the call's own, and held against each other (chapter 15). Conditions: each theorem's own.
-/
import Derived.Test.YtmmikolcipcldaaTreeSpoil
import Derived.Test.YtmmikolcipcldaaTreeNodes
import Derived.Deep.QuietTactic
import Derived.BigQuiet
namespace Go.Proofs.Ytmmikolcipcldaa
open Go.RowKit Go.Deep

section
variable {W : World} {lo : Nat} {v : Value}
theorem OwnI.app2 {xs : List Int} (h : OwnI lo W v xs) (hlo : lo ≤ W.heap.size) (hl : (xs.length + 1) * 8 ≤ 140737488355328) (x : Int) :
    ∃ v' w', (Builtin.append_ #[58, 58] 58 #[v, .slice (some ⟨W.heap.size, 0, none⟩) 1 1]).run Try.prog (W.alloc (.cells #[.int .i64 x] 3)) = .ok v' w' ∧ OwnI lo w' v' (xs ++ [x]) ∧ (∀ w0, Below lo w0 W → Below lo w0 w') := by
  obtain ⟨i0, hi0, hz0, hz1, hz2⟩ := info_parts infoI
  have hb := Blk.new W 3 #[.int .i64 x]
  have ho := h.alloc (.cells #[.int .i64 x] 3)
  obtain ⟨v', w2, s1, s2, s3⟩ := run_append_G (P := Try.prog) (W.alloc (.cells #[.int .i64 x] 3)) IntV lo 58 58 3 i0 _ 1 8 Try.underlying58 hi0 hz0 hz1 hz2 rfl (by omega) v xs.length (vcells xs) ho
    ⟨W.heap.size, 0, none⟩ 1 1 [.int .i64 x] rfl (World.news_of_block hb) (by simp [Value.oneCell']) (by unfold maxLen; omega) hl (by simp; omega)
    (fun u hu => by
      simp only [Value.cells, List.mem_cons, List.not_mem_nil, or_false] at hu
      subst hu
      exact ⟨_, rfl⟩) (fun u hu => by
      simp only [List.mem_cons, List.not_mem_nil, or_false] at hu
      subst hu
      exact ⟨_, rfl⟩) (vcells_int xs)
  refine ⟨v', w2, s1, ?_, fun w0 hb0 => (hb0.alloc hlo _).grown s3 (by simp; omega) (fun q hq => (ho.1.lt q hq).1)⟩
  unfold OwnI
  rw [List.length_append, show vcells (xs ++ [x]) = vcells xs ++ [.int .i64 x] by simp [vcells]]
  exact s2
theorem OwnK.app2 {ks : List Ky} (h : OwnK lo W v ks) (hlo : lo ≤ W.heap.size) (hl : (ks.length + 1) * 16 ≤ 140737488355328) (a b : Int) :
    ∃ v' w', (Builtin.append_ #[39, 39] 39 #[v, .slice (some ⟨W.heap.size, 0, none⟩) 1 1]).run Try.prog (W.alloc (.cells #[.int .i64 a, .int .i64 b] 24)) = .ok v' w' ∧ OwnK lo w' v' (ks ++ [⟨a, b⟩]) ∧ (∀ w0, Below lo w0 W → Below lo w0 w') := by
  obtain ⟨i0, hi0, hz0, hz1, hz2⟩ := info_parts infoK
  have hb := Blk.new W 24 #[.int .i64 a, .int .i64 b]
  have ho := h.alloc (.cells #[.int .i64 a, .int .i64 b] 24)
  obtain ⟨v', w2, s1, s2, s3⟩ := run_append_G (P := Try.prog) (W.alloc (.cells #[.int .i64 a, .int .i64 b] 24)) IntV lo 39 39 24 i0 _ 2 16 Try.underlying39 hi0 hz0 hz1 hz2 rfl (by omega) v ks.length (kcells ks) ho
    ⟨W.heap.size, 0, none⟩ 1 1 [.int .i64 a, .int .i64 b] rfl (World.news_of_block hb) (by simp [Value.oneCell']) (by unfold maxLen; omega) hl (by simp; omega)
    (fun u hu => by
      simp only [Value.cells, List.mem_cons, List.not_mem_nil, or_false] at hu
      rcases hu with rfl | rfl <;> exact ⟨_, rfl⟩) (fun u hu => by
      simp only [List.mem_cons, List.not_mem_nil, or_false] at hu
      rcases hu with rfl | rfl <;> exact ⟨_, rfl⟩) (kcells_int ks)
  refine ⟨v', w2, s1, ?_, fun w0 hb0 => (hb0.alloc hlo _).grown s3 (by simp; omega) (fun q hq => (ho.1.lt q hq).1)⟩
  unfold OwnK
  rw [List.length_append, show kcells (ks ++ [⟨a, b⟩]) = kcells ks ++ [.int .i64 a, .int .i64 b] by simp [kcells, Ky.cells]]
  exact s2
end
theorem take_getI (L : List Int) {i : Nat} (hi : i < L.length) : L.take (i + 1) = L.take i ++ [L.getD i 0] := by
  rw [List.take_succ_eq_append_getElem hi, List.getD_eq_getElem?_getD, List.getElem?_eq_getElem hi]; rfl
theorem take_getK (L : List Ky) {i : Nat} (hi : i < L.length) : L.take (i + 1) = L.take i ++ [L.getD i k0] := by
  rw [List.take_succ_eq_append_getElem hi, List.getD_eq_getElem?_getD, List.getElem?_eq_getElem hi]; rfl


set_option maxRecDepth 100000 in
set_option maxHeartbeats 1000000 in
theorem copyK {v : Value} {ks : List Ky} {w : World} (h : KsAt w v ks) (hl : ks.length * 16 ≤ 140737488351232) :
    Calls Try.prog 40 #[v] w fun e w' => ∃ A c, e = .returned (.slice A ks.length c) ∧ OwnK w.heap.size w' (.slice A ks.length c) ks ∧ Below w.heap.size w w' := by
  obtain ⟨A, c, rfl, hc, hh⟩ := h
  have HH := Lib.hid hh
  clear hh
  go_enter Try.func40, Try.ntmps40
  go_wp2_with fail
  go_loopg [3, 4] ks.length (fun g' s3 i wr => ∃ (k : Nat) (kv : Value), k ≤ ks.length ∧ g' = ks.length - k ∧ i = .int .i64 k ∧ kv = s3 ∧ OwnK w.heap.size wr kv (ks.take k) ∧ Below w.heap.size w wr)
  case atStart => exact ⟨0, _, Nat.zero_le _, rfl, rfl, rfl, OwnG.nil_ _ _ _ _, Below.refl _ _⟩
  case round =>
    obtain ⟨k, kv, hk, rfl, rfl, rfl, hO, hb⟩ := hrel
    by_cases hlt : k < ks.length
    · have hki : (k : Int) < (ks.length : Int) := by omega
      have hk0 : (0 : Int) ≤ (k : Int) := by omega
      obtain ⟨g, o, rfl, hg, hcl⟩ := HH.out (by omega)
      have c0 : wr.cell? ⟨g, o + k * 2, none⟩ = some (.int .i64 (ks.getD k k0).t) := by rw [hb.cell (p := ⟨g, _, none⟩) hg]; exact (hcl k hlt).1
      have c1 : wr.cell? ⟨g, o + k * 2 + 1, none⟩ = some (.int .i64 (ks.getD k k0).s) := by rw [hb.cell (p := ⟨g, _, none⟩) hg]; exact (hcl k hlt).2
      obtain ⟨⟨x, y⟩, hxy⟩ : ∃ e, e = ks.getD k k0 := ⟨_, rfl⟩
      rw [← hxy] at c0 c1
      obtain ⟨v', w3, hrun, hO3, hb3⟩ := OwnK.app2 hO hb.size (by rw [List.length_take]; omega) x y
      have HTK := Lib.hid (take_getK ks hlt)
      rw [← hxy] at HTK
      have HY := Lib.hid (And.intro hO3 (hb3 _ hb))
      clear hO3 hb3 hO hb hcl hxy
      go_wp2_with (at_builtin; refine wpList_append_run rfl (.tmp 11) (.tmp 16) 39 rfl rfl rfl hrun ?_)
      go_roundg (ks.length - (k + 1))
      case measure => omega
      case rel => exact ⟨k + 1, _, by omega, rfl, by go_num, rfl, by rw [HTK.out]; exact HY.out.1, HY.out.2⟩
    · obtain rfl : k = ks.length := by omega
      have hki : ¬ (ks.length : Int) < (ks.length : Int) := by omega
      rw [List.take_length] at hO
      obtain ⟨A', c', rfl⟩ : ∃ A' c', kv = .slice A' ks.length c' := by
        rcases hO.1.2 with ⟨rfl, h0⟩ | ⟨g, cap, cur, rfl, _⟩
        · exact ⟨none, 0, by rw [h0]⟩
        · exact ⟨_, cap, rfl⟩
      have HY := Lib.hid (And.intro hO hb)
      clear hO hb
      go_wp2_with fail
      go_ret
      exact ⟨A', c', rfl, HY.out.1, HY.out.2⟩

set_option maxRecDepth 100000 in
set_option maxHeartbeats 1000000 in
theorem copyI {v : Value} {ks : List Int} {w : World} (h : IsAt w v ks) (hl : ks.length * 8 ≤ 140737488351232) :
    Calls Try.prog 41 #[v] w fun e w' => ∃ A c, e = .returned (.slice A ks.length c) ∧ OwnI w.heap.size w' (.slice A ks.length c) ks ∧ Below w.heap.size w w' := by
  obtain ⟨A, c, rfl, hc, hh⟩ := h
  have HH := Lib.hid hh
  clear hh
  go_enter Try.func41, Try.ntmps41
  go_wp2_with fail
  go_loopg [3, 4] ks.length (fun g' s3 i wr => ∃ (k : Nat) (kv : Value), k ≤ ks.length ∧ g' = ks.length - k ∧ i = .int .i64 k ∧ kv = s3 ∧ OwnI w.heap.size wr kv (ks.take k) ∧ Below w.heap.size w wr)
  case atStart => exact ⟨0, _, Nat.zero_le _, rfl, rfl, rfl, OwnG.nil_ _ _ _ _, Below.refl _ _⟩
  case round =>
    obtain ⟨k, kv, hk, rfl, rfl, rfl, hO, hb⟩ := hrel
    by_cases hlt : k < ks.length
    · have hki : (k : Int) < (ks.length : Int) := by omega
      have hk0 : (0 : Int) ≤ (k : Int) := by omega
      obtain ⟨g, o, rfl, hg, hcl⟩ := HH.out (by omega)
      have c0 : wr.cell? ⟨g, o + k, none⟩ = some (.int .i64 (ks.getD k 0)) := by rw [hb.cell (p := ⟨g, _, none⟩) hg]; exact hcl k hlt
      obtain ⟨x, hxy⟩ : ∃ e, e = ks.getD k 0 := ⟨_, rfl⟩
      rw [← hxy] at c0
      obtain ⟨v', w3, hrun, hO3, hb3⟩ := OwnI.app2 hO hb.size (by rw [List.length_take]; omega) x
      have HTK := Lib.hid (take_getI ks hlt)
      rw [← hxy] at HTK
      have HY := Lib.hid (And.intro hO3 (hb3 _ hb))
      clear hO3 hb3 hO hb hcl hxy
      go_wp2_with (at_builtin; refine wpList_append_run rfl (.tmp 11) (.tmp 16) 58 rfl rfl rfl hrun ?_)
      go_roundg (ks.length - (k + 1))
      case measure => omega
      case rel => exact ⟨k + 1, _, by omega, rfl, by go_num, rfl, by rw [HTK.out]; exact HY.out.1, HY.out.2⟩
    · obtain rfl : k = ks.length := by omega
      have hki : ¬ (ks.length : Int) < (ks.length : Int) := by omega
      rw [List.take_length] at hO
      obtain ⟨A', c', rfl⟩ : ∃ A' c', kv = .slice A' ks.length c' := by
        rcases hO.1.2 with ⟨rfl, h0⟩ | ⟨g, cap, cur, rfl, _⟩
        · exact ⟨none, 0, by rw [h0]⟩
        · exact ⟨_, cap, rfl⟩
      have HY := Lib.hid (And.intro hO hb)
      clear hO hb
      go_wp2_with fail
      go_ret
      exact ⟨A', c', rfl, HY.out.1, HY.out.2⟩

set_option maxRecDepth 100000 in
set_option maxHeartbeats 1000000 in
theorem sameK {u v : Value} {ks : List Ky} {w : World} (h : KsAt w u ks) (h' : KsAt w v ks) (hl : ks.length ≤ 140737488351232) :
    Calls Try.prog 42 #[u, v] w fun e w' => e = .returned (.bool true) ∧ Below w.heap.size w w' := by
  obtain ⟨A, c, rfl, hc, hh⟩ := h
  obtain ⟨A', c', rfl, hc', hh'⟩ := h'
  have HH := Lib.hid hh
  have HH' := Lib.hid hh'
  clear hh hh'
  go_enter Try.func42, Try.ntmps42
  go_wp2_with fail
  go_loopg [5] ks.length (fun g' i wr => ∃ (k : Nat), k ≤ ks.length ∧ g' = ks.length - k ∧ i = .int .i64 k ∧ Below w.heap.size w wr)
  case atStart => exact ⟨0, Nat.zero_le _, rfl, rfl, Below.refl _ _⟩
  case round =>
    obtain ⟨k, hk, rfl, rfl, hb⟩ := hrel
    by_cases hlt : k < ks.length
    · have hki : (k : Int) < (ks.length : Int) := by omega
      have hk0 : (0 : Int) ≤ (k : Int) := by omega
      obtain ⟨g, o, rfl, hg, hcl⟩ := HH.out (by omega)
      obtain ⟨g', o', rfl, hg', hcl'⟩ := HH'.out (by omega)
      have c0 : wr.cell? ⟨g, o + k * 2, none⟩ = some (.int .i64 (ks.getD k k0).t) := by rw [hb.cell (p := ⟨g, _, none⟩) hg]; exact (hcl k hlt).1
      have c1 : wr.cell? ⟨g, o + k * 2 + 1, none⟩ = some (.int .i64 (ks.getD k k0).s) := by rw [hb.cell (p := ⟨g, _, none⟩) hg]; exact (hcl k hlt).2
      have d0 : wr.cell? ⟨g', o' + k * 2, none⟩ = some (.int .i64 (ks.getD k k0).t) := by rw [hb.cell (p := ⟨g', _, none⟩) hg']; exact (hcl' k hlt).1
      have d1 : wr.cell? ⟨g', o' + k * 2 + 1, none⟩ = some (.int .i64 (ks.getD k k0).s) := by rw [hb.cell (p := ⟨g', _, none⟩) hg']; exact (hcl' k hlt).2
      obtain ⟨⟨x, y⟩, hxy⟩ : ∃ e, e = ks.getD k k0 := ⟨_, rfl⟩
      rw [← hxy] at c0 c1 d0 d1
      have hne : ∀ W, (binOp .neq 24 (.agg #[.int .i64 x, .int .i64 y]) (.agg #[.int .i64 x, .int .i64 y])).run Try.prog W = .ok (.bool false) W := fun W => by rw [ne_key]; simp
      have HB := Lib.hid hb
      clear hcl hcl' hxy hb
      go_wp2_with fail
      go_quiet (fail)
      go_wp2_with fail
      go_roundg (ks.length - (k + 1))
      case measure => omega
      case rel => exact ⟨k + 1, by omega, rfl, by go_num, below_drewN HB.out _⟩
    · obtain rfl : k = ks.length := by omega
      have hki : ¬ (ks.length : Int) < (ks.length : Int) := by omega
      have HB := Lib.hid hb
      clear hb
      go_wp2_with fail
      go_ret
      exact ⟨rfl, HB.out⟩

set_option maxRecDepth 100000 in
set_option maxHeartbeats 1000000 in
theorem sameI {u v : Value} {ks : List Int} {w : World} (h : IsAt w u ks) (h' : IsAt w v ks) (hl : ks.length ≤ 140737488351232) :
    Calls Try.prog 43 #[u, v] w fun e w' => e = .returned (.bool true) ∧ Below w.heap.size w w' := by
  obtain ⟨A, c, rfl, hc, hh⟩ := h
  obtain ⟨A', c', rfl, hc', hh'⟩ := h'
  have HH := Lib.hid hh
  have HH' := Lib.hid hh'
  clear hh hh'
  go_enter Try.func43, Try.ntmps43
  go_wp2_with fail
  go_loopg [5] ks.length (fun g' i wr => ∃ (k : Nat), k ≤ ks.length ∧ g' = ks.length - k ∧ i = .int .i64 k ∧ Below w.heap.size w wr)
  case atStart => exact ⟨0, Nat.zero_le _, rfl, rfl, Below.refl _ _⟩
  case round =>
    obtain ⟨k, hk, rfl, rfl, hb⟩ := hrel
    by_cases hlt : k < ks.length
    · have hki : (k : Int) < (ks.length : Int) := by omega
      have hk0 : (0 : Int) ≤ (k : Int) := by omega
      obtain ⟨g, o, rfl, hg, hcl⟩ := HH.out (by omega)
      obtain ⟨g', o', rfl, hg', hcl'⟩ := HH'.out (by omega)
      have c0 : wr.cell? ⟨g, o + k, none⟩ = some (.int .i64 (ks.getD k 0)) := by rw [hb.cell (p := ⟨g, _, none⟩) hg]; exact hcl k hlt
      have d0 : wr.cell? ⟨g', o' + k, none⟩ = some (.int .i64 (ks.getD k 0)) := by rw [hb.cell (p := ⟨g', _, none⟩) hg']; exact hcl' k hlt
      obtain ⟨x, hxy⟩ : ∃ e, e = ks.getD k 0 := ⟨_, rfl⟩
      rw [← hxy] at c0 d0
      have HB := Lib.hid hb
      clear hcl hcl' hxy hb
      go_wp2_with fail
      go_quiet (fail)
      go_wp2_with fail
      go_roundg (ks.length - (k + 1))
      case measure => omega
      case rel => exact ⟨k + 1, by omega, rfl, by go_num, below_drewN HB.out _⟩
    · obtain rfl : k = ks.length := by omega
      have hki : ¬ (ks.length : Int) < (ks.length : Int) := by omega
      have HB := Lib.hid hb
      clear hb
      go_wp2_with fail
      go_ret
      exact ⟨rfl, HB.out⟩
end Go.Proofs.Ytmmikolcipcldaa
