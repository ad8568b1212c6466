/-
  What is proved here: rows of entries in memory; are two of them the same?; a new tree; how many keys there are; the laws' keys (chapter 15). Conditions: each theorem's own.
-/
import Derived.Test.YtmmikolcipcldaaTreeGet
import Derived.Test.YtmmikolcipcldaaTreeGather
namespace Go.Proofs.Ytmmikolcipcldaa
open Go.RowKit Go.Deep

def e0 : En := (k0, 0)
/-- a slice of entries, as it reads. -/
def EnsAt (W : World) (v : Value) (es : List En) : Prop :=
  ∃ A c, v = .slice A es.length c ∧ es.length ≤ c ∧ ((A = none ∧ c = 0) ∨ ∃ g o, A = some ⟨g, o, none⟩) ∧ (0 < es.length → ∃ g o, A = some ⟨g, o, none⟩ ∧ g < W.heap.size ∧ ∀ i, i < es.length →
    W.cell? ⟨g, o + i * 3, none⟩ = some (.int .i64 (es.getD i e0).1.t) ∧ W.cell? ⟨g, o + i * 3 + 1, none⟩ = some (.int .i64 (es.getD i e0).1.s) ∧ W.cell? ⟨g, o + i * 3 + 2, none⟩ = some (.int .i64 (es.getD i e0).2))
theorem ecells_at : ∀ (es : List En) (i : Nat), i < es.length → (ecells es)[i * 3]? = some (.int .i64 (es.getD i e0).1.t) ∧ (ecells es)[i * 3 + 1]? = some (.int .i64 (es.getD i e0).1.s) ∧ (ecells es)[i * 3 + 2]? = some (.int .i64 (es.getD i e0).2)
  | x :: es, 0, _ => ⟨rfl, rfl, rfl⟩
  | x :: es, i + 1, h => by
    have := ecells_at es i (by simpa using h)
    rw [show (i + 1) * 3 = i * 3 + 3 by omega]
    exact this
section
variable {W W' : World} {v : Value} {es : List En}
theorem EnsAt.on {B : Nat} (h : EnsAt W v es) (hb : Below B W W') (hB : W.heap.size ≤ B) : EnsAt W' v es := by
  obtain ⟨A, c, h1, h2, h0, h3⟩ := h
  refine ⟨A, c, h1, h2, h0, fun hp => ?_⟩
  obtain ⟨g, o, h4, h5, h6⟩ := h3 hp
  refine ⟨g, o, h4, Nat.lt_of_lt_of_le h5 hb.size, fun i hi => ?_⟩
  have e := fun j => hb.cell (p := ⟨g, j, none⟩) (Nat.lt_of_lt_of_le h5 hB)
  rw [e, e, e]
  exact h6 i hi
theorem EnsAt.of_own {base n : Nat} (h : W.ownsRow base 44 3 v n (ecells es)) (hn : n = es.length) : EnsAt W v es := by
  subst hn
  obtain ⟨hl, ⟨rfl, hn⟩ | ⟨g, cap, cur, rfl, hg, hb, h1, h2, h3, h4⟩⟩ := h
  · obtain rfl : es = [] := List.eq_nil_of_length_eq_zero hn
    exact ⟨none, 0, rfl, Nat.le_refl _, .inl ⟨rfl, rfl⟩, fun hp => absurd hp (by simp)⟩
  · refine ⟨some ⟨g, 0, none⟩, cap, rfl, h1, .inr ⟨g, 0, rfl⟩, fun _ => ⟨g, 0, rfl, Blk.lt hb, fun i hi => ?_⟩⟩
    have hc : ∀ j u, j < es.length * 3 → (ecells es)[j]? = some u → W.cell? ⟨g, 0 + j, none⟩ = some u := fun j u hj hu => by
      rw [Nat.zero_add, Blk.cell hb, ← hu, ← h4, List.getElem?_take, if_pos hj, Array.getElem?_toList]
    obtain ⟨a, b, c⟩ := ecells_at es i hi
    rw [Nat.add_assoc 0 (i * 3) 1, Nat.add_assoc 0 (i * 3) 2]
    exact ⟨hc _ _ (by omega) a, hc _ _ (by omega) b, hc _ _ (by omega) c⟩
theorem EnsAt.take {A : Option Addr} {n c m : Nat} (h : EnsAt W (.slice A n c) es) (hm : m ≤ es.length) : EnsAt W (.slice A m c) (es.take m) := by
  obtain ⟨A', c', h1, h2, h0, h3⟩ := h
  cases h1
  have hl : (es.take m).length = m := by rw [List.length_take]; omega
  refine ⟨A, c, by rw [hl], by omega, h0, fun hp => ?_⟩
  rw [hl] at hp
  obtain ⟨g, o, h4, h5, h6⟩ := h3 (by omega)
  refine ⟨g, o, h4, h5, fun i hi => ?_⟩
  rw [hl] at hi
  rw [take_getD hi]
  exact h6 i (by omega)
theorem EnsAt.drop {g o n c m : Nat} {A : Option Addr} (h : EnsAt W (.slice (some ⟨g, o, none⟩) n c) es) (hm : m ≤ es.length) (hA : m < es.length → A = some ⟨g, o + m * 3, none⟩) (hA0 : ∃ o', A = some ⟨g, o', none⟩) : EnsAt W (.slice A (n - m) (c - m)) (es.drop m) := by
  obtain ⟨A', c', h1, h2, h0, h3⟩ := h
  cases h1
  have hl : (es.drop m).length = es.length - m := List.length_drop
  refine ⟨A, c - m, by rw [hl], by omega, .inr ⟨g, hA0⟩, fun hp => ?_⟩
  rw [hl] at hp
  obtain ⟨g', o', h4, h5, h6⟩ := h3 (by omega)
  cases h4
  refine ⟨g, o + m * 3, hA (by omega), h5, fun i hi => ?_⟩
  rw [hl] at hi
  rw [drop_getD, show o + m * 3 + i * 3 = o + (i + m) * 3 by omega]
  exact h6 (i + m) (by omega)
theorem ext_getD_en {L M : List En} (hl : L.length = M.length) (h : ∀ j, j < L.length → L.getD j e0 = M.getD j e0) : L = M := by
  apply List.ext_getElem hl
  intro i h1 h2
  have := h i h1
  simpa [h1, h2] using this
end
theorem enT : Try.prog.underlying 44 = some (.struct (Try.prog.fieldsOf 44)) := by kernel_rfl
theorem enH : Try.prog.stoodInHeld 44 = false := by kernel_rfl
theorem keyT : Try.prog.underlying 24 = some (.struct (Try.prog.fieldsOf 24)) := by kernel_rfl
theorem keyH : Try.prog.stoodInHeld 24 = false := by kernel_rfl
theorem ne_en (a b c a' b' c' : Int) (w : World) : (binOp .neq 44 (.agg #[.int .i64 a, .int .i64 b, .int .i64 c]) (.agg #[.int .i64 a', .int .i64 b', .int .i64 c'])).run Try.prog w = .ok (.bool (!(decide (a = a') && (decide (b = b') && decide (c = c'))))) w := by
  rw [run_neq_struct, run_equalIn_agg _ _ _ _ _ enT enH]
  simp [go_sem]
  by_cases h1 : a = a' <;> by_cases h2 : b = b' <;> by_cases h3 : c = c' <;> simp [h1, h2, h3]
theorem ne_key (a b a' b' : Int) (w : World) : (binOp .neq 24 (.agg #[.int .i64 a, .int .i64 b]) (.agg #[.int .i64 a', .int .i64 b'])).run Try.prog w = .ok (.bool (!(decide (a = a') && decide (b = b')))) w := by
  rw [run_neq_struct, run_equalIn_agg _ _ _ _ _ keyT keyH]
  simp [go_sem]
  by_cases h1 : a = a' <;> by_cases h2 : b = b' <;> simp [h1, h2]
theorem en_eta (x : En) : x = ((⟨x.1.t, x.1.s⟩ : Ky), x.2) := rfl

set_option maxRecDepth 100000 in
set_option maxHeartbeats 2000000 in
theorem same_any {w : World} {u v : Value} {L M : List En} (hA : EnsAt w u L) (hB : EnsAt w v M) (hlen : L.length ≤ 140737488351232) :
    Calls Try.prog 15 #[u, v] w fun e w' => e = .returned (.bool (decide (L = M))) ∧ Below w.heap.size w w' := by
  obtain ⟨A, ca, rfl, hca, _, hA⟩ := hA
  obtain ⟨B, cb, rfl, hcb, _, hB⟩ := hB
  by_cases hl : L.length = M.length
  · have HA := Lib.hid hA
    have HB := Lib.hid hB
    clear hA hB
    rw [← hl]
    have HL := Lib.hid hl
    rw [← hl] at hcb
    clear hl
    go_enter Try.func15, Try.ntmps15
    go_wp2_with fail
    go_loopg [5] L.length (fun g i wr => ∃ k : Nat, k ≤ L.length ∧ g = L.length - k ∧ i = .int .i64 k ∧ (∀ j, j < k → L.getD j e0 = M.getD j e0) ∧ Below w.heap.size w wr)
    case atStart => exact ⟨0, Nat.zero_le _, rfl, rfl, fun j hj => absurd hj (by omega), Below.refl _ _⟩
    case round =>
      obtain ⟨k, hk, rfl, rfl, hsame, hbw⟩ := hrel
      have HSM := Lib.hid hsame
      clear hsame
      by_cases hlt : k < L.length
      · obtain ⟨b, off, rfl, hb, hS⟩ := HA.out (by omega)
        have hlM : L.length = M.length := HL.out
        obtain ⟨b', off', rfl, hb', hS'⟩ := HB.out (by omega)
        obtain ⟨h0, h1, h2⟩ := hS k hlt
        obtain ⟨h0', h1', h2'⟩ := hS' k (by omega)
        rw [← hbw.cell (p := ⟨b, _, none⟩) hb] at h0 h1 h2
        rw [← hbw.cell (p := ⟨b', _, none⟩) hb'] at h0' h1' h2'
        clear hS hS' hlM
        obtain ⟨x, hx⟩ : ∃ x, x = L.getD k e0 := ⟨_, rfl⟩
        rw [← hx] at h0 h1 h2
        obtain ⟨y, hy⟩ : ∃ y, y = M.getD k e0 := ⟨_, rfl⟩
        rw [← hy] at h0' h1' h2'
        have HX := Lib.hid hx
        have HY := Lib.hid hy
        clear hx hy
        obtain ⟨⟨x1, x2⟩, x3⟩ := x
        obtain ⟨⟨y1, y2⟩, y3⟩ := y
        have hki : (k : Int) < (L.length : Int) := by omega
        have hk0 : (0 : Int) ≤ (k : Int) := by omega
        obtain ⟨q, hq⟩ : ∃ q, q = !(decide (x1 = y1) && (decide (x2 = y2) && decide (x3 = y3))) := ⟨_, rfl⟩
        have hne := fun W => ne_en x1 x2 x3 y1 y2 y3 W
        rw [← hq] at hne
        have HQ := Lib.hid hq
        clear hq
        cases q
        · have heq : ((⟨x1, x2⟩ : Ky), x3) = ((⟨y1, y2⟩ : Ky), y3) := by
            have := HQ.out
            simp at this
            obtain ⟨rfl, rfl, rfl⟩ := this
            rfl
          have HEQ := Lib.hid heq
          clear heq
          go_wp2_with fail
          go_quiet (fail)
          go_wp2_with fail
          go_roundg (L.length - (k + 1))
          case measure => omega
          case rel =>
            refine ⟨k + 1, by omega, rfl, by go_num, fun j hj => ?_, by (repeat (first | (with_reducible assumption) | (with_reducible exact Below.refl _ _) | ((with_reducible refine Below.setCell ?_ ?_ _); rotate_left; · (first | omega | (simp; done) | (simp; omega) | (simp at *; omega))) | ((with_reducible refine Below.alloc ?_ ?_ _); rotate_left; · (first | omega | (simp; done) | (simp; omega) | (simp at *; omega))) | (with_reducible refine Below.drew ?_) | (with_reducible refine below_drewN ?_ _) | ((refine Below.trans ?_ (Below.mono (by with_reducible assumption) ?_)); rotate_left; · (first | omega | (simp; done) | (simp; omega) | (simp at *; omega)))))⟩
            by_cases e : j = k
            · rw [e, ← HX.out, ← HY.out, HEQ.out]
            · exact HSM.out j (by omega)
        · have heq : ((⟨x1, x2⟩ : Ky), x3) ≠ ((⟨y1, y2⟩ : Ky), y3) := fun h => by
            have := HQ.out
            cases h
            simp at this
          have HXY := Lib.hid heq
          clear heq
          go_wp2_with fail
          go_quiet (fail)
          go_wp2_with fail
          go_ret
          exact ⟨ret_bool (decide_eq_false (fun e => HXY.out (by rw [HX.out, HY.out, e]))).symm, by (repeat (first | (with_reducible assumption) | (with_reducible exact Below.refl _ _) | ((with_reducible refine Below.setCell ?_ ?_ _); rotate_left; · (first | omega | (simp; done) | (simp; omega) | (simp at *; omega))) | ((with_reducible refine Below.alloc ?_ ?_ _); rotate_left; · (first | omega | (simp; done) | (simp; omega) | (simp at *; omega))) | (with_reducible refine Below.drew ?_) | (with_reducible refine below_drewN ?_ _) | ((refine Below.trans ?_ (Below.mono (by with_reducible assumption) ?_)); rotate_left; · (first | omega | (simp; done) | (simp; omega) | (simp at *; omega)))))⟩
      · obtain rfl : k = L.length := by omega
        have hki : ¬ (L.length : Int) < (L.length : Int) := by omega
        go_wp2_with fail
        go_ret
        exact ⟨ret_bool (decide_eq_true (ext_getD_en HL.out HSM.out)).symm, hbw⟩
  · have hne : ((L.length : Int) == (M.length : Int)) = false := by rw [beq_eq_false_iff_ne]; omega
    have hne' : ((L.length : Int) != (M.length : Int)) = true := by rw [bne_iff_ne]; omega
    have HL := Lib.hid hl
    clear hl hA hB
    go_enter Try.func15, Try.ntmps15
    go_wp2_with fail
    go_ret
    exact ⟨ret_bool (decide_eq_false (fun e => HL.out (by rw [e]))).symm, Below.refl _ _⟩
end Go.Proofs.Ytmmikolcipcldaa
