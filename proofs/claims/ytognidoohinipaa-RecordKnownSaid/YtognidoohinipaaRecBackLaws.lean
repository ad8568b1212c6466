/-
  What is proved here: a right record's bytes are read as it; what is read has just these bytes (chapter 11), in plain lists. Conditions: each theorem's own.
-/
import Derived.Test.YtognidoohinipaaRecEq
namespace Go.Proofs.Ytognidoohinipaa
open Go.RowKit Go.Deep Go.Joins Go.WideShapes

theorem wrap_i64 (u : Int) : IntKind.i64.wrap u = (u + 9223372036854775808) % 18446744073709551616 - 9223372036854775808 := by
  rw [IntWalk.i64_left]; unfold wrap64; rfl
theorem be8_list (t : Int) : be8 t = [t / 72057594037927936 % 256, t / 281474976710656 % 256, t / 1099511627776 % 256, t / 4294967296 % 256, t / 16777216 % 256, t / 65536 % 256, t / 256 % 256, t / 1 % 256] := rfl
theorem numB_be8 (t : Int) : numB (be8 t) = t % 18446744073709551616 := by
  rw [be8_list]
  simp only [numB, List.foldl_cons, List.foldl_nil]
  have a1 : (0 * 256 + t / 72057594037927936 % 256) = t / 72057594037927936 % 256 := by omega
  rw [a1]
  have a2 : t / 72057594037927936 % 256 * 256 + t / 281474976710656 % 256 = t / 281474976710656 % 65536 := by omega
  rw [a2]
  have a3 : t / 281474976710656 % 65536 * 256 + t / 1099511627776 % 256 = t / 1099511627776 % 16777216 := by omega
  rw [a3]
  have a4 : t / 1099511627776 % 16777216 * 256 + t / 4294967296 % 256 = t / 4294967296 % 4294967296 := by omega
  rw [a4]
  have a5 : t / 4294967296 % 4294967296 * 256 + t / 16777216 % 256 = t / 16777216 % 1099511627776 := by omega
  rw [a5]
  have a6 : t / 16777216 % 1099511627776 * 256 + t / 65536 % 256 = t / 65536 % 281474976710656 := by omega
  rw [a6]
  have a7 : t / 65536 % 281474976710656 * 256 + t / 256 % 256 = t / 256 % 72057594037927936 := by omega
  rw [a7]
  omega
theorem val8_be8 {t : Int} (h : I64 t) (X : List Int) : val8 (be8 t ++ X) = t := by
  unfold val8
  rw [List.take_append_of_le_length (by rw [be8_len]; omega), List.take_of_length_le (by rw [be8_len]; omega), numB_be8, wrap_i64]
  unfold I64 at h
  omega
theorem val8_in (M : List Int) : I64 (val8 M) := by
  unfold val8
  rw [wrap_i64]
  unfold I64
  omega
theorem eight_list {M : List Int} (h : 8 ≤ M.length) : ∃ a b c d e f g i : Int, M.take 8 = [a, b, c, d, e, f, g, i] := by
  match M, h with
  | a :: b :: c :: d :: e :: f :: g :: i :: _, _ => exact ⟨a, b, c, d, e, f, g, i, rfl⟩
theorem be8_val8 {M : List Int} (hM : ∀ x ∈ M, U8 x) (h : 8 ≤ M.length) : be8 (val8 M) = M.take 8 := by
  obtain ⟨a, b, c, d, e, f, g, i, hl⟩ := eight_list h
  have hu : ∀ x ∈ M.take 8, U8 x := fun x hx => hM x (List.mem_of_mem_take hx)
  unfold val8
  rw [hl] at hu ⊢
  have h1 := hu a (by simp)
  have h2 := hu b (by simp)
  have h3 := hu c (by simp)
  have h4 := hu d (by simp)
  have h5 := hu e (by simp)
  have h6 := hu f (by simp)
  have h7 := hu g (by simp)
  have h8 := hu i (by simp)
  unfold U8 at h1 h2 h3 h4 h5 h6 h7 h8
  have hn : numB [a, b, c, d, e, f, g, i] = a * 72057594037927936 + b * 281474976710656 + c * 1099511627776 + d * 4294967296 + e * 16777216 + f * 65536 + g * 256 + i := by
    simp only [numB, List.foldl_cons, List.foldl_nil]
    omega
  rw [hn, be8_list, wrap_i64]
  obtain ⟨u, hu⟩ : ∃ u, u = a * 72057594037927936 + b * 281474976710656 + c * 1099511627776 + d * 4294967296 + e * 16777216 + f * 65536 + g * 256 + i := ⟨_, rfl⟩
  rw [← hu]
  have e1 : ((u + 9223372036854775808) % 18446744073709551616 - 9223372036854775808) / 72057594037927936 % 256 = a := by omega
  have e2 : ((u + 9223372036854775808) % 18446744073709551616 - 9223372036854775808) / 281474976710656 % 256 = b := by omega
  have e3 : ((u + 9223372036854775808) % 18446744073709551616 - 9223372036854775808) / 1099511627776 % 256 = c := by omega
  have e4 : ((u + 9223372036854775808) % 18446744073709551616 - 9223372036854775808) / 4294967296 % 256 = d := by omega
  have e5 : ((u + 9223372036854775808) % 18446744073709551616 - 9223372036854775808) / 16777216 % 256 = e := by omega
  have e6 : ((u + 9223372036854775808) % 18446744073709551616 - 9223372036854775808) / 65536 % 256 = f := by omega
  have e7 : ((u + 9223372036854775808) % 18446744073709551616 - 9223372036854775808) / 256 % 256 = g := by omega
  have e8 : ((u + 9223372036854775808) % 18446744073709551616 - 9223372036854775808) / 1 % 256 = i := by omega
  rw [e1, e2, e3, e4, e5, e6, e7, e8]
theorem mkG_strL (g : ByteArray) : mkG (strL g) = g := by
  unfold mkG strOfNums strL
  rw [List.map_map]
  have : (fun n : Int => UInt8.ofNat n.toNat) ∘ (fun b : UInt8 => (b.toNat : Int)) = id := by
    funext b
    simp
  rw [this, List.map_id]
theorem strL_mkG {L : List Int} (h : ∀ x ∈ L, U8 x) : strL (mkG L) = L := by
  unfold mkG strL
  rw [strOfNums_data, List.map_map]
  conv => rhs; rw [← List.map_id L]
  apply List.map_congr_left
  intro x hx
  have := h x hx
  unfold U8 at this
  simp
  omega
theorem strL_u8 (g : ByteArray) : ∀ x ∈ strL g, U8 x := by
  intro x hx
  obtain ⟨b, _, rfl⟩ := List.mem_map.1 hx
  have := b.toNat_lt
  exact ⟨by omega, by omega⟩
theorem be8_u8 (t : Int) : ∀ x ∈ be8 t, U8 x := by
  intro x hx
  obtain ⟨j, _, rfl⟩ := List.mem_map.1 hx
  exact ⟨by omega, by omega⟩
theorem noG_of {g : ByteArray} (h : g.size = 0) : g = noG := by
  have e := mkG_strL g
  have : strL g = [] := List.eq_nil_of_length_eq_zero (by rw [strL_len]; exact h)
  rw [this] at e
  exact e.symm

/-- what bytes are that begin with a kind, by their number. -/
def Fit (L : List Int) (n : Nat) (r : Rec) : Prop := (L.length < n → getS L = (zeroR, 1)) ∧ (n < L.length → getS L = (zeroR, 2)) ∧ (L.length = n → getS L = okR r)
theorem fit_one {L : List Int} {k : Int} (hk : k = L.getD 0 0) (h0 : 1 ≤ L.length) (h : k = 3 ∨ k = 4) : Fit L 17 ⟨k, val8 (L.drop 1), noG, val8 (L.drop 9), 0⟩ :=
  getS_one (fun t v => ⟨k, t, noG, v, 0⟩) (fun t M s e => by rw [getS_of h0 hk (by unfold Within; omega) e, if_neg (by omega), if_neg (by omega), if_neg (by omega)])
theorem fit_five {L : List Int} {k : Int} (hk : k = L.getD 0 0) (h0 : 1 ≤ L.length) (h : k = 5) : Fit L 17 ⟨k, val8 (L.drop 1), noG, 0, val8 (L.drop 9)⟩ :=
  getS_one (fun t i => ⟨k, t, noG, 0, i⟩) (fun t M s e => by rw [getS_of h0 hk (by unfold Within; omega) e, if_neg (by omega), if_pos h])
theorem fit_six {L : List Int} {k : Int} (hk : k = L.getD 0 0) (h0 : 1 ≤ L.length) (h : k = 6) : Fit L 25 ⟨k, val8 (L.drop 1), noG, val8 (L.drop 17), val8 (L.drop 9)⟩ :=
  getS_two (fun t i v => ⟨k, t, noG, v, i⟩) (fun t M s x M2 s2 e e2 => by rw [getS_of h0 hk (by unfold Within; omega) e, if_neg (by omega), if_neg (by omega), if_pos h, e2])
theorem fit_tag {L : List Int} {k : Int} (hk : k = L.getD 0 0) (h0 : 1 ≤ L.length) (h : k = 1 ∨ k = 2) : (L.length < 10 → getS L = (zeroR, 1)) ∧ ∀ y : Nat, (y : Int) = L.getD 9 0 → 10 ≤ L.length → Fit L (18 + y) ⟨k, val8 (L.drop 1), mkG ((L.drop 10).take y), val8 (L.drop (10 + y)), 0⟩ :=
  getS_tag (fun t g v => ⟨k, t, g, v, 0⟩) (fun t M s e => by rw [getS_of h0 hk (by unfold Within; omega) e, if_pos h])
def Ranged (r : Rec) : Prop := I64 r.t ∧ I64 r.v ∧ I64 r.i
theorem drop_be8 (a t : Int) (X : List Int) : ([a] ++ be8 t ++ X).drop 1 = be8 t ++ X ∧ ([a] ++ be8 t ++ X).drop 9 = X := by
  refine ⟨rfl, ?_⟩
  rw [List.drop_append_of_le_length (by simp [be8_len])]
  rw [List.drop_eq_nil_of_le (by simp [be8_len])]
  rfl
theorem val8_end {t : Int} (h : I64 t) : val8 (be8 t) = t := by
  have := val8_be8 h []
  rw [List.append_nil] at this
  exact this
theorem rec_shape {r : Rec} (hr : recErr r = 0) :
    ((r.k = 3 ∨ r.k = 4) ∧ r.g = noG ∧ r.i = 0 ∧ recL r = [r.k] ++ be8 r.t ++ be8 r.v) ∨ (r.k = 5 ∧ r.g = noG ∧ r.v = 0 ∧ recL r = [r.k] ++ be8 r.t ++ be8 r.i) ∨
    (r.k = 6 ∧ r.g = noG ∧ recL r = [r.k] ++ be8 r.t ++ (be8 r.i ++ be8 r.v)) ∨ ((r.k = 1 ∨ r.k = 2) ∧ r.i = 0 ∧ 1 ≤ r.g.size ∧ r.g.size ≤ 16 ∧ recL r = [r.k] ++ be8 r.t ++ ([(r.g.size : Int)] ++ (strL r.g ++ be8 r.v))) := by
  obtain ⟨p1, p2, p3, p4, p5⟩ := err_parts hr
  obtain ⟨k, t, g, v, i⟩ := r
  have hk := ok_kind hr
  dsimp only at *
  unfold FieldBad at p2
  dsimp only at p2
  unfold recL
  dsimp only
  rcases hk with rfl | rfl | rfl | rfl | rfl | rfl
  · right; right; right
    have hn : nameB g = true := by
      cases h : nameB g with
      | false => exact absurd ⟨.inl rfl, h⟩ p4
      | true => rfl
    have hs := of_decide_eq_true hn
    have e : (g.size : Int) % 256 = g.size := by have := hs.2.1; omega
    refine ⟨.inl rfl, ?_, hs.1, hs.2.1, by simp [tagK, namK, e]⟩
    unfold namK at p2; omega
  · right; right; right
    have hn : nameB g = true := by
      cases h : nameB g with
      | false => exact absurd ⟨.inr rfl, h⟩ p4
      | true => rfl
    have hs := of_decide_eq_true hn
    have e : (g.size : Int) % 256 = g.size := by have := hs.2.1; omega
    refine ⟨.inr rfl, ?_, hs.1, hs.2.1, by simp [tagK, namK, e]⟩
    unfold namK at p2; omega
  · left
    exact ⟨.inl rfl, noG_of (by unfold tagK at p2; omega), by unfold namK at p2; omega, by simp [tagK, namK]⟩
  · left
    exact ⟨.inr rfl, noG_of (by unfold tagK at p2; omega), by unfold namK at p2; omega, by simp [tagK, namK]⟩
  · right; left
    exact ⟨rfl, noG_of (by unfold tagK at p2; omega), by omega, by simp [tagK, namK]⟩
  · right; right; left
    exact ⟨rfl, noG_of (by unfold tagK at p2; omega), by simp [tagK, namK]⟩
theorem rec_len {r : Rec} (hr : recErr r = 0) : 17 ≤ (recL r).length ∧ (recL r).length ≤ 34 := by
  rcases rec_shape hr with ⟨_, _, _, e⟩ | ⟨_, _, _, e⟩ | ⟨_, _, e⟩ | ⟨_, _, h1, h2, e⟩
  · rw [e]; simp [be8_len]
  · rw [e]; simp [be8_len]
  · rw [e]; simp [be8_len]
  · rw [e]; simp [be8_len, strL_len]; omega
theorem rec_u8 {r : Rec} (hr : recErr r = 0) : ∀ x ∈ recL r, U8 x := by
  have hk := ok_kind hr
  intro x hx
  rcases rec_shape hr with ⟨_, _, _, e⟩ | ⟨_, _, _, e⟩ | ⟨_, _, e⟩ | ⟨_, _, h1, h2, e⟩
  all_goals
    rw [e] at hx
    simp only [List.mem_append, List.mem_singleton] at hx
  · rcases hx with (hx | hx) | hx
    · rw [hx]; unfold U8; omega
    · exact be8_u8 _ x hx
    · exact be8_u8 _ x hx
  · rcases hx with (hx | hx) | hx
    · rw [hx]; unfold U8; omega
    · exact be8_u8 _ x hx
    · exact be8_u8 _ x hx
  · rcases hx with (hx | hx) | hx | hx
    · rw [hx]; unfold U8; omega
    · exact be8_u8 _ x hx
    · exact be8_u8 _ x hx
    · exact be8_u8 _ x hx
  · rcases hx with (hx | hx) | hx | hx | hx
    · rw [hx]; unfold U8; omega
    · exact be8_u8 _ x hx
    · rw [hx]; unfold U8; omega
    · exact strL_u8 _ x hx
    · exact be8_u8 _ x hx
theorem okR_ok {r : Rec} (h : recErr r = 0) : okR r = (r, 0) := if_pos h
/-- more bytes behind a record's. -/
theorem rec_app {r : Rec} (hr : recErr r = 0) (hi : Ranged r) (X : List Int) : (0 < X.length → getS (recL r ++ X) = (zeroR, 2)) ∧ (X = [] → getS (recL r ++ X) = (r, 0)) := by
  obtain ⟨i1, i2, i3⟩ := hi
  have key : ∀ (n : Nat) (r' : Rec), (recL r).length = n → Fit (recL r ++ X) n r' → (X = [] → r' = r) → (0 < X.length → getS (recL r ++ X) = (zeroR, 2)) ∧ (X = [] → getS (recL r ++ X) = (r, 0)) := by
    intro n r' hn hf he
    refine ⟨fun h => hf.2.1 (by rw [List.length_append]; omega), fun h => ?_⟩
    rw [hf.2.2 (by rw [List.length_append, h]; simpa using hn), he h, okR_ok hr]
  rcases rec_shape hr with ⟨hk, hg, h0, e⟩ | ⟨hk, hg, h0, e⟩ | ⟨hk, hg, e⟩ | ⟨hk, h0, h1, h2, e⟩
  · obtain ⟨d1, d9⟩ := drop_be8 r.k r.t (be8 r.v ++ X)
    have e2 : recL r ++ X = [r.k] ++ be8 r.t ++ (be8 r.v ++ X) := by rw [e, List.append_assoc]
    refine key 17 _ (by rw [e]; simp [be8_len]) (fit_one (k := r.k) (by rw [e2]; rfl) (by rw [e2]; simp) hk) (fun hX => ?_)
    rw [e2, d1, d9, val8_be8 i1, val8_be8 i2]
    obtain ⟨k, t, g, v, i⟩ := r
    dsimp only at *
    rw [hg, h0]
  · obtain ⟨d1, d9⟩ := drop_be8 r.k r.t (be8 r.i ++ X)
    have e2 : recL r ++ X = [r.k] ++ be8 r.t ++ (be8 r.i ++ X) := by rw [e, List.append_assoc]
    refine key 17 _ (by rw [e]; simp [be8_len]) (fit_five (k := r.k) (by rw [e2]; rfl) (by rw [e2]; simp) hk) (fun hX => ?_)
    rw [e2, d1, d9, val8_be8 i1, val8_be8 i3]
    obtain ⟨k, t, g, v, i⟩ := r
    dsimp only at *
    rw [hg, h0]
  · obtain ⟨d1, d9⟩ := drop_be8 r.k r.t (be8 r.i ++ (be8 r.v ++ X))
    have e2 : recL r ++ X = [r.k] ++ be8 r.t ++ (be8 r.i ++ (be8 r.v ++ X)) := by rw [e]; simp [List.append_assoc]
    have d17 : (recL r ++ X).drop 17 = be8 r.v ++ X := by
      rw [e2, show (17 : Nat) = 9 + 8 from rfl, ← List.drop_drop, d9, List.drop_append_of_le_length (by rw [be8_len]; omega), List.drop_eq_nil_of_le (by rw [be8_len]; omega)]
      rfl
    refine key 25 _ (by rw [e]; simp [be8_len]) (fit_six (k := r.k) (by rw [e2]; rfl) (by rw [e2]; simp) hk) (fun hX => ?_)
    rw [d17, e2, d1, d9, val8_be8 i1, val8_be8 i2, val8_be8 i3]
    obtain ⟨k, t, g, v, i⟩ := r
    dsimp only at *
    rw [hg]
  · obtain ⟨d1, d9⟩ := drop_be8 r.k r.t ([(r.g.size : Int)] ++ (strL r.g ++ (be8 r.v ++ X)))
    have e2 : recL r ++ X = [r.k] ++ be8 r.t ++ ([(r.g.size : Int)] ++ (strL r.g ++ (be8 r.v ++ X))) := by rw [e]; simp [List.append_assoc]
    have d10 : (recL r ++ X).drop 10 = strL r.g ++ (be8 r.v ++ X) := by
      rw [e2, show (10 : Nat) = 9 + 1 from rfl, ← List.drop_drop, d9]
      rfl
    have d10y : (recL r ++ X).drop (10 + r.g.size) = be8 r.v ++ X := by
      rw [← List.drop_drop, d10, List.drop_append_of_le_length (by rw [strL_len]; omega), List.drop_eq_nil_of_le (by rw [strL_len]; omega)]
      rfl
    have g9 : (recL r ++ X).getD 9 0 = (r.g.size : Int) := by
      have := getD_drop (recL r ++ X) 9 0
      rw [Nat.add_zero] at this
      rw [← this, e2, d9]
      rfl
    have hl : (recL r).length = 18 + r.g.size := by rw [e]; simp [be8_len, strL_len]; omega
    refine key (18 + r.g.size) _ hl ((fit_tag (k := r.k) (by rw [e2]; rfl) (by rw [e2]; simp) hk).2 r.g.size g9.symm (by rw [List.length_append]; omega)) (fun hX => ?_)
    rw [d10y, d10, e2, d1, val8_be8 i1, val8_be8 i2, List.take_append_of_le_length (by rw [strL_len]; omega), List.take_of_length_le (by rw [strL_len]; omega), mkG_strL]
    obtain ⟨k, t, g, v, i⟩ := r
    dsimp only at *
    rw [h0]
/-- a beginning of a record's bytes. -/
theorem rec_cut {r : Rec} (hr : recErr r = 0) {c : Nat} (hc : c < (recL r).length) : getS ((recL r).take c) = (zeroR, 1) := by
  have hlen : ((recL r).take c).length = c := by rw [List.length_take]; omega
  by_cases c0 : c = 0
  · unfold getS
    rw [if_pos (by rw [hlen]; exact c0)]
  have hk0 : ((recL r).take c).getD 0 0 = r.k := by
    rw [List.getD_eq_getElem?_getD, List.getElem?_take, if_pos (by omega)]
    rcases rec_shape hr with ⟨_, _, _, e⟩ | ⟨_, _, _, e⟩ | ⟨_, _, e⟩ | ⟨_, _, _, _, e⟩ <;> rw [e] <;> rfl
  rcases rec_shape hr with ⟨hk, hg, h0, e⟩ | ⟨hk, hg, h0, e⟩ | ⟨hk, hg, e⟩ | ⟨hk, h0, h1, h2, e⟩
  · have hl : (recL r).length = 17 := by rw [e]; simp [be8_len]
    exact (fit_one hk0.symm (by omega) hk).1 (by omega)
  · have hl : (recL r).length = 17 := by rw [e]; simp [be8_len]
    exact (fit_five hk0.symm (by omega) hk).1 (by omega)
  · have hl : (recL r).length = 25 := by rw [e]; simp [be8_len]
    exact (fit_six hk0.symm (by omega) hk).1 (by omega)
  · have hl : (recL r).length = 18 + r.g.size := by rw [e]; simp [be8_len, strL_len]; omega
    have hf := fit_tag hk0.symm (by omega) hk
    by_cases h10 : c < 10
    · exact hf.1 (by omega)
    · have g9 : ((recL r).take c).getD 9 0 = (r.g.size : Int) := by
        rw [List.getD_eq_getElem?_getD, List.getElem?_take, if_pos (by omega), e]
        rfl
      exact (hf.2 r.g.size g9.symm (by omega)).1 (by omega)
theorem okR_zero {r R : Rec} (h : okR r = (R, 0)) : recErr r = 0 ∧ R = r := by
  unfold okR at h
  by_cases h0 : recErr r = 0
  · rw [if_pos h0] at h
    injection h with h1 _
    exact ⟨h0, h1.symm⟩
  · rw [if_neg h0] at h
    injection h with _ h2
    exact absurd h2 h0
theorem fit_zero {L : List Int} {n : Nat} {r R : Rec} (hf : Fit L n r) (h : getS L = (R, 0)) : L.length = n ∧ recErr r = 0 ∧ R = r := by
  by_cases h1 : L.length < n
  · rw [hf.1 h1] at h; injection h with _ h; omega
  by_cases h2 : n < L.length
  · rw [hf.2.1 h2] at h; injection h with _ h; omega
  have hl : L.length = n := by omega
  rw [hf.2.2 hl] at h
  exact ⟨hl, okR_zero h⟩
theorem head_cons {L : List Int} (h : 1 ≤ L.length) : L = [L.getD 0 0] ++ L.drop 1 := by
  match L, h with
  | a :: l, _ => rfl
/-- what is read from bytes has just these. -/
theorem rec_only {L : List Int} {R : Rec} (hL : ∀ x ∈ L, U8 x) (h : getS L = (R, 0)) : recErr R = 0 ∧ recL R = L ∧ Ranged R ∧ R.g.size ≤ 16 := by
  have h0 : 1 ≤ L.length := by
    by_cases h0 : L.length = 0
    · unfold getS at h
      rw [if_pos h0] at h
      injection h with _ h; omega
    · omega
  have hw : Within (L.getD 0 0) 1 6 := by
    by_cases hw : Within (L.getD 0 0) 1 6
    · exact hw
    · unfold getS at h
      rw [if_neg (by omega)] at h
      dsimp only at h
      rw [if_pos hw] at h
      injection h with _ h; omega
  have hu : ∀ n, ∀ x ∈ L.drop n, U8 x := fun n x hx => hL x (List.mem_of_mem_drop hx)
  obtain ⟨k, hk⟩ : ∃ k, k = L.getD 0 0 := ⟨_, rfl⟩
  rw [← hk] at hw
  have hh := head_cons h0
  rw [← hk] at hh
  have hd1 : L.drop 1 = (L.drop 1).take 8 ++ L.drop 9 := by
    have := (List.take_append_drop 8 (L.drop 1)).symm
    rw [List.drop_drop] at this
    exact this
  have h6 : (k = 3 ∨ k = 4) ∨ k = 5 ∨ k = 6 ∨ (k = 1 ∨ k = 2) := by unfold Within at hw; omega
  rcases h6 with hk6 | hk6 | hk6 | hk6
  · obtain ⟨hl, he, rfl⟩ := fit_zero (fit_one hk h0 hk6) h
    refine ⟨he, ?_, ⟨val8_in _, val8_in _, by unfold I64; dsimp only; omega⟩, by show noG.size ≤ 16; decide⟩
    rcases rec_shape he with ⟨_, _, _, e⟩ | ⟨e, _⟩ | ⟨e, _⟩ | ⟨e, _⟩
    · rw [e]
      dsimp only
      rw [be8_val8 (hu 1) (by rw [List.length_drop]; omega), be8_val8 (hu 9) (by rw [List.length_drop]; omega)]
      conv => rhs; rw [hh, hd1]
      rw [List.take_of_length_le (l := L.drop 9) (by rw [List.length_drop]; omega), List.append_assoc]
    · dsimp only at e; omega
    · dsimp only at e; omega
    · dsimp only at e; omega
  · obtain ⟨hl, he, rfl⟩ := fit_zero (fit_five hk h0 hk6) h
    refine ⟨he, ?_, ⟨val8_in _, by unfold I64; dsimp only; omega, val8_in _⟩, by show noG.size ≤ 16; decide⟩
    rcases rec_shape he with ⟨e, _⟩ | ⟨_, _, _, e⟩ | ⟨e, _⟩ | ⟨e, _⟩
    · dsimp only at e; omega
    · rw [e]
      dsimp only
      rw [be8_val8 (hu 1) (by rw [List.length_drop]; omega), be8_val8 (hu 9) (by rw [List.length_drop]; omega)]
      conv => rhs; rw [hh, hd1]
      rw [List.take_of_length_le (l := L.drop 9) (by rw [List.length_drop]; omega), List.append_assoc]
    · dsimp only at e; omega
    · dsimp only at e; omega
  · obtain ⟨hl, he, rfl⟩ := fit_zero (fit_six hk h0 hk6) h
    refine ⟨he, ?_, ⟨val8_in _, val8_in _, val8_in _⟩, by show noG.size ≤ 16; decide⟩
    have hd9 : L.drop 9 = (L.drop 9).take 8 ++ L.drop 17 := by
      have := (List.take_append_drop 8 (L.drop 9)).symm
      rw [List.drop_drop] at this
      exact this
    rcases rec_shape he with ⟨e, _⟩ | ⟨e, _⟩ | ⟨_, _, e⟩ | ⟨e, _⟩
    · dsimp only at e; omega
    · dsimp only at e; omega
    · rw [e]
      dsimp only
      rw [be8_val8 (hu 1) (by rw [List.length_drop]; omega), be8_val8 (hu 9) (by rw [List.length_drop]; omega), be8_val8 (hu 17) (by rw [List.length_drop]; omega)]
      conv => rhs; rw [hh, hd1, hd9]
      rw [List.take_of_length_le (l := L.drop 17) (by rw [List.length_drop]; omega), List.append_assoc]
    · dsimp only at e; omega
  · have hf := fit_tag hk h0 hk6
    have h10 : 10 ≤ L.length := by
      by_cases h10 : L.length < 10
      · rw [hf.1 h10] at h; injection h with _ h; omega
      · omega
    have hy9 := getD_u8 hL 9
    unfold U8 at hy9
    obtain ⟨y, hy⟩ : ∃ y : Nat, (y : Int) = L.getD 9 0 := ⟨(L.getD 9 0).toNat, by omega⟩
    obtain ⟨hl, he, rfl⟩ := fit_zero (hf.2 y hy h10) h
    have hty : ((L.drop 10).take y).length = y := by rw [List.length_take, List.length_drop]; omega
    have hgs : (mkG ((L.drop 10).take y)).size = y := by unfold mkG; rw [strOfNums_size, hty]
    have hd9 : L.drop 9 = [(y : Int)] ++ L.drop 10 := by
      have := head_cons (L := L.drop 9) (by rw [List.length_drop]; omega)
      rw [getD_drop, List.drop_drop, Nat.add_zero, ← hy] at this
      exact this
    have hd10 : L.drop 10 = (L.drop 10).take y ++ L.drop (10 + y) := by
      have := (List.take_append_drop y (L.drop 10)).symm
      rw [List.drop_drop] at this
      exact this
    rcases rec_shape he with ⟨e, _⟩ | ⟨e, _⟩ | ⟨e, _⟩ | ⟨_, _, h1, h2, e⟩
    · dsimp only at e; omega
    · dsimp only at e; omega
    · dsimp only at e; omega
    · refine ⟨he, ?_, ⟨val8_in _, val8_in _, by unfold I64; dsimp only; omega⟩, h2⟩
      rw [e]
      dsimp only
      rw [be8_val8 (hu 1) (by rw [List.length_drop]; omega), be8_val8 (hu (10 + y)) (by rw [List.length_drop]; omega), hgs, strL_mkG (fun x hx => hu 10 x (List.mem_of_mem_take hx))]
      conv => rhs; rw [hh, hd1, hd9, hd10]
      rw [List.take_of_length_le (l := L.drop (10 + y)) (by rw [List.length_drop]; omega), List.append_assoc]
end Go.Proofs.Ytognidoohinipaa
