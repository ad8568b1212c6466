/-
  What is proved here: bits turned within 32 side by side change a sum of 32 bits (chapter 13). Conditions: bytes are bytes.
-/
import Derived.Test.YtjpbmapnagkonaaChkScan
namespace Go.Proofs.Ytjpbmapnagkonaa
open Go.RowKit Go.Deep

def bitN (x : Nat) : Nat := if x % 2 = 1 then (x / 2) ^^^ 3988292384 else x / 2
def iterN : Nat → Nat → Nat
  | 0, x => x
  | k + 1, x => iterN k (bitN x)
theorem xor_half (x y : Nat) : (x ^^^ y) / 2 = x / 2 ^^^ y / 2 := by
  apply Nat.eq_of_testBit_eq
  intro i
  simp [Nat.testBit_div_two, Nat.testBit_xor]
theorem xor_odd (x y : Nat) : (x ^^^ y) % 2 = (x % 2 + y % 2) % 2 := by
  have h := Nat.testBit_xor x y 0
  simp only [Nat.testBit_zero] at h
  rcases Nat.mod_two_eq_zero_or_one x with hx | hx <;> rcases Nat.mod_two_eq_zero_or_one y with hy | hy <;> rcases Nat.mod_two_eq_zero_or_one (x ^^^ y) with hz | hz <;> simp_all
theorem bitN_xor (x y : Nat) : bitN (x ^^^ y) = bitN x ^^^ bitN y := by
  unfold bitN
  rw [xor_half, xor_odd]
  rcases Nat.mod_two_eq_zero_or_one x with hx | hx <;> rcases Nat.mod_two_eq_zero_or_one y with hy | hy
  · simp [hx, hy]
  · simp [hx, hy, Nat.xor_assoc]
  · have e : ¬ (0 = 1) := by omega
    rw [hx, hy, if_pos rfl, if_neg e, if_pos (by omega)]
    rw [Nat.xor_assoc, Nat.xor_assoc, Nat.xor_comm 3988292384]
  · rw [hx, hy, if_pos rfl, if_pos rfl, if_neg (by omega)]
    rw [Nat.xor_assoc, ← Nat.xor_assoc 3988292384, Nat.xor_comm 3988292384 (y / 2), Nat.xor_assoc (y / 2), Nat.xor_self, Nat.xor_zero]
theorem iterN_xor : ∀ (k x y : Nat), iterN k (x ^^^ y) = iterN k x ^^^ iterN k y
  | 0, _, _ => rfl
  | k + 1, x, y => by unfold iterN; rw [bitN_xor, iterN_xor k]
theorem bitN_two (y : Nat) : bitN (2 * y) = y := by
  unfold bitN
  rw [if_neg (by omega)]
  omega
theorem iterN_add : ∀ (a b x : Nat), iterN (a + b) x = iterN b (iterN a x)
  | 0, b, x => by rw [Nat.zero_add]; rfl
  | a + 1, b, x => by
    rw [show a + 1 + b = (a + b) + 1 by omega]
    show iterN (a + b) (bitN x) = iterN b (iterN a (bitN x))
    exact iterN_add a b (bitN x)
theorem iterN_pow : ∀ (k y : Nat), iterN k (2 ^ k * y) = y
  | 0, y => by simp [iterN]
  | k + 1, y => by
    unfold iterN
    rw [show 2 ^ (k + 1) * y = 2 * (2 ^ k * y) by rw [Nat.pow_succ, Nat.mul_comm (2 ^ k) 2, Nat.mul_assoc], bitN_two]
    exact iterN_pow k y
theorem bitN_lt {x : Nat} (h : x < 2 ^ 32) : bitN x < 2 ^ 32 := by
  unfold bitN
  split
  · exact Nat.xor_lt_two_pow (by omega) (by decide)
  · omega
theorem bitN_ne {x : Nat} (h : x < 2 ^ 32) (h0 : x ≠ 0) : bitN x ≠ 0 := by
  unfold bitN
  split
  · intro e
    have : x / 2 = 3988292384 := by
      have e2 : (x / 2 ^^^ 3988292384) ^^^ 3988292384 = 0 ^^^ 3988292384 := by rw [e]
      rw [Nat.xor_assoc, Nat.xor_self, Nat.xor_zero, Nat.zero_xor] at e2
      exact e2
    omega
  · omega
theorem iterN_ne : ∀ (k : Nat) {x : Nat}, x < 2 ^ 32 → x ≠ 0 → iterN k x ≠ 0
  | 0, _, _, h => h
  | k + 1, _, h, h0 => by unfold iterN; exact iterN_ne k (bitN_lt h) (bitN_ne h h0)
theorem iterN_burst (n s M : Nat) (hs : s ≤ n) (hM : M < 2 ^ 32) (h0 : M ≠ 0) : iterN n (2 ^ s * M) ≠ 0 := by
  rw [show n = s + (n - s) by omega, iterN_add, iterN_pow]
  exact iterN_ne _ hM h0

/-- a list of bytes as one number, the first byte lowest. -/
def num : List Int → Nat
  | [] => 0
  | b :: L => b.toNat + 2 ^ 8 * num L
theorem low_xor {b n k : Nat} (h : b < 2 ^ k) : b + 2 ^ k * n = b ^^^ (2 ^ k * n) := by
  apply Nat.eq_of_testBit_eq
  intro i
  rw [Nat.add_comm, Nat.testBit_two_pow_mul_add _ h, Nat.testBit_xor, Nat.testBit_two_pow_mul]
  by_cases hi : i < k
  · have : ¬ i ≥ k := by omega
    simp [hi, this]
  · have : i ≥ k := by omega
    have hb : b.testBit i = false := Nat.testBit_lt_two_pow (Nat.lt_of_lt_of_le h (Nat.pow_le_pow_right (by omega) this))
    simp [hi, this, hb]
theorem bitI_nat {r : Int} (h : U32 r) : bitI r = (bitN r.toNat : Int) := by
  unfold U32 at h
  unfold bitI bitN
  by_cases ho : r % 2 = 1
  · rw [if_pos ho, if_pos (by omega), u32_xor (r / 2) 3988292384 (by omega) (by omega) (by decide) (by decide)]
    have : (r / 2).toNat = r.toNat / 2 := by omega
    rw [this]
    rfl
  · rw [if_neg ho, if_neg (by omega)]
    omega
theorem bitNI_nat {r : Int} (h : U32 r) : ∀ k, bitNI k r = (iterN k r.toNat : Int)
  | 0 => by show r = (r.toNat : Int); have := h.1; omega
  | k + 1 => by
    show bitI (bitNI k r) = _
    rw [bitI_nat (bitNI_in h k), bitNI_nat h k, show k + 1 = k + 1 from rfl, iterN_add k 1]
    rfl
theorem runI_num : ∀ (L : List Int) (c : Int), U32 c → (∀ x ∈ L, U8 x) → runI c L = (iterN (8 * L.length) (c.toNat ^^^ num L) : Int)
  | [], c, hc, _ => by
    have h1 := hc.1
    show c = ((c.toNat ^^^ 0 : Nat) : Int)
    rw [Nat.xor_zero]
    omega
  | b :: L, c, hc, hL => by
    have hb := hL b (by simp)
    have hx := xor_in hc hb.u32
    have hc2 := hc
    have hb2 := hb.u32
    unfold U32 at hc2 hb2
    unfold U8 at hb
    show runI (bitNI 8 (bits .xor .u32 c b)) L = _
    rw [runI_num L _ (bitNI_in hx 8) (fun x hx => hL x (by simp [hx])), bitNI_nat hx 8, Int.toNat_natCast, u32_xor c b hc2.1 (by omega) hb2.1 (by omega), Int.toNat_natCast]
    show _ = ((iterN (8 * (L.length + 1)) (c.toNat ^^^ (b.toNat + 2 ^ 8 * num L)) : Nat) : Int)
    rw [show 8 * (L.length + 1) = 8 + 8 * L.length by omega, iterN_add 8, low_xor (show b.toNat < 2 ^ 8 by omega), ← Nat.xor_assoc, iterN_xor 8 _ (2 ^ 8 * num L), iterN_pow 8]
theorem runI_burst {L M : List Int} {c : Int} (hc : U32 c) (hL : ∀ x ∈ L, U8 x) (hM : ∀ x ∈ M, U8 x) (hl : L.length = M.length) (s m : Nat) (hs : s ≤ 8 * L.length) (hm : m < 2 ^ 32) (h0 : m ≠ 0) (hx : num M = num L ^^^ (2 ^ s * m)) : runI c L ≠ runI c M := by
  rw [runI_num L c hc hL, runI_num M c hc hM, ← hl, hx, ← Nat.xor_assoc, iterN_xor _ _ (2 ^ s * m)]
  intro e
  have h1 := iterN_burst (8 * L.length) s m hs hm h0
  apply h1
  have e2 : iterN (8 * L.length) (c.toNat ^^^ num L) = iterN (8 * L.length) (c.toNat ^^^ num L) ^^^ iterN (8 * L.length) (2 ^ s * m) := by omega
  have e3 := congrArg (fun z => iterN (8 * L.length) (c.toNat ^^^ num L) ^^^ z) e2
  simp only [Nat.xor_self] at e3
  rw [← Nat.xor_assoc, Nat.xor_self, Nat.zero_xor] at e3
  exact e3.symm
theorem sumL_burst {L M : List Int} (hL : ∀ x ∈ L, U8 x) (hM : ∀ x ∈ M, U8 x) (hl : L.length = M.length) (hn : L.length ≤ 65535) (s m : Nat) (hs : s ≤ 8 * L.length) (hm : m < 2 ^ 32) (h0 : m ≠ 0) (hx : num M = num L ^^^ (2 ^ s * m)) : sumL L ≠ sumL M := by
  unfold sumL
  rw [← hl]
  intro e
  have hc := moreI_in (c := 0) ⟨by decide, by decide⟩ (headL_u8 hn)
  refine runI_burst (flip_in hc) hL hM hl s m hs hm h0 hx ?_
  unfold moreI at e ⊢
  omega
theorem num_append : ∀ (A B : List Int), num (A ++ B) = num A + 2 ^ (8 * A.length) * num B
  | [], B => by simp [num]
  | a :: A, B => by
    show a.toNat + 2 ^ 8 * num (A ++ B) = (a.toNat + 2 ^ 8 * num A) + 2 ^ (8 * (A.length + 1)) * num B
    rw [num_append A B, show 8 * (A.length + 1) = 8 + 8 * A.length by omega, Nat.pow_add, Nat.mul_add, Nat.mul_assoc]
    omega
theorem num_lt : ∀ (A : List Int), (∀ x ∈ A, U8 x) → num A < 2 ^ (8 * A.length)
  | [], _ => by simp [num]
  | a :: A, h => by
    have h1 := num_lt A (fun x hx => h x (by simp [hx]))
    have h2 := h a (by simp)
    unfold U8 at h2
    show a.toNat + 2 ^ 8 * num A < 2 ^ (8 * (A.length + 1))
    rw [show 8 * (A.length + 1) = 8 + 8 * A.length by omega, Nat.pow_add]
    have : a.toNat + 2 ^ 8 * num A < 2 ^ 8 * (num A + 1) := by omega
    exact Nat.lt_of_lt_of_le this (Nat.mul_le_mul_left _ h1)
/-- one bit of one byte is turned. -/
theorem num_flip : ∀ (L : List Int) (j t : Nat), (∀ x ∈ L, U8 x) → j < L.length → t < 8 → num (L.set j (((L.getD j 0).toNat ^^^ 2 ^ t : Nat) : Int)) = num L ^^^ 2 ^ (8 * j + t)
  | [], _, _, _, h, _ => absurd h (by simp)
  | b :: L, 0, t, hL, _, ht => by
    have hb := hL b (by simp)
    unfold U8 at hb
    show (((b.toNat ^^^ 2 ^ t : Nat) : Int)).toNat + 2 ^ 8 * num L = (b.toNat + 2 ^ 8 * num L) ^^^ 2 ^ (8 * 0 + t)
    rw [Int.toNat_natCast, low_xor (Nat.xor_lt_two_pow (show b.toNat < 2 ^ 8 by omega) (Nat.pow_lt_pow_right (by omega) ht)), low_xor (show b.toNat < 2 ^ 8 by omega), Nat.xor_assoc, Nat.xor_assoc, Nat.xor_comm (2 ^ t), Nat.mul_zero, Nat.zero_add]
  | b :: L, j + 1, t, hL, hj, ht => by
    have hb := hL b (by simp)
    unfold U8 at hb
    have ih := num_flip L j t (fun x hx => hL x (by simp [hx])) (by simpa using hj) ht
    show b.toNat + 2 ^ 8 * num (L.set j (((L.getD j 0).toNat ^^^ 2 ^ t : Nat) : Int)) = (b.toNat + 2 ^ 8 * num L) ^^^ 2 ^ (8 * (j + 1) + t)
    rw [ih, low_xor (show b.toNat < 2 ^ 8 by omega), low_xor (show b.toNat < 2 ^ 8 by omega), Nat.xor_assoc]
    congr 1
    apply Nat.eq_of_testBit_eq
    intro i
    rw [show 2 ^ (8 * (j + 1) + t) = 2 ^ 8 * 2 ^ (8 * j + t) by rw [← Nat.pow_add]; congr 1; omega]
    simp only [Nat.testBit_two_pow_mul, Nat.testBit_xor]
    by_cases hi : i ≥ 8 <;> simp [hi]

/-- bits turned in a chunk's bytes: what is known of them after so many. -/
structure Turned (B : List Int) (fr till at_ : Nat) (i : Nat) (L : List Int) (n : Nat) : Prop where
  len : L.length = B.length
  u8 : ∀ x ∈ L, U8 x
  same : ∀ j, (j < fr ∨ till ≤ j) → L.getD j 0 = B.getD j 0
  none_ : n = 0 → L = B
  some_ : n ≠ 0 → ∃ m, m < 2 ^ i ∧ m ≠ 0 ∧ num L = num B ^^^ (2 ^ at_ * m)
theorem Turned.start {B : List Int} (h : ∀ x ∈ B, U8 x) (fr till at_ : Nat) : Turned B fr till at_ 0 B 0 := ⟨rfl, h, fun _ _ => rfl, fun _ => rfl, fun h => absurd rfl h⟩
theorem Turned.skip {B L : List Int} {fr till at_ i n : Nat} (h : Turned B fr till at_ i L n) : Turned B fr till at_ (i + 1) L n :=
  ⟨h.len, h.u8, h.same, h.none_, fun hn => by
    obtain ⟨m, h1, h2, h3⟩ := h.some_ hn
    exact ⟨m, by rw [Nat.pow_succ]; omega, h2, h3⟩⟩
theorem getD_set_int (L : List Int) (j k : Nat) (x : Int) : (L.set j x).getD k 0 = if j = k ∧ j < L.length then x else L.getD k 0 := by
  rw [List.getD_eq_getElem?_getD, List.getElem?_set, List.getD_eq_getElem?_getD]
  by_cases h : j = k
  · subst h
    by_cases hl : j < L.length
    · simp [hl]
    · simp [hl]
  · simp [h]
theorem flip_u8 {x : Int} (h : U8 x) {t : Nat} (ht : t < 8) : U8 ((x.toNat ^^^ 2 ^ t : Nat) : Int) := by
  unfold U8 at h ⊢
  have := Nat.xor_lt_two_pow (n := 8) (show x.toNat < 2 ^ 8 by omega) (Nat.pow_lt_pow_right (a := 2) (by omega) ht)
  omega
theorem Turned.flip {B L : List Int} {fr till at_ i n k : Nat} (h : Turned B fr till at_ i L n) (hk : k = at_ + i) (h1 : fr ≤ k / 8) (h2 : k / 8 < till) (h3 : till ≤ B.length) :
    Turned B fr till at_ (i + 1) (L.set (k / 8) (((L.getD (k / 8) 0).toNat ^^^ 2 ^ (k % 8) : Nat) : Int)) (n + 1) := by
  have hl := h.len
  refine ⟨by rw [List.length_set]; exact hl, fun x hx => ?_, fun j hj => ?_, fun hn => by omega, fun _ => ?_⟩
  · rcases List.mem_or_eq_of_mem_set hx with hx | hx
    · exact h.u8 x hx
    · rw [hx]; exact flip_u8 (getD_u8 h.u8 _) (by omega)
  · rw [getD_set_int, if_neg (by omega)]
    exact h.same j hj
  · have hnum := num_flip L (k / 8) (k % 8) h.u8 (by omega) (by omega)
    have e : 8 * (k / 8) + k % 8 = at_ + i := by omega
    rw [e] at hnum
    by_cases hn : n = 0
    · refine ⟨2 ^ i, by rw [Nat.pow_succ]; have := Nat.two_pow_pos i; omega, by have := Nat.two_pow_pos i; omega, ?_⟩
      rw [hnum, h.none_ hn, Nat.pow_add]
    · obtain ⟨m, m1, m2, m3⟩ := h.some_ hn
      refine ⟨m + 2 ^ i * 1, by rw [Nat.pow_succ]; omega, by omega, ?_⟩
      rw [hnum, m3, low_xor m1, Nat.xor_assoc]
      congr 1
      rw [Nat.pow_add]
      apply Nat.eq_of_testBit_eq
      intro j
      simp only [Nat.testBit_two_pow_mul, Nat.testBit_xor, Nat.mul_one]
      by_cases hj : j ≥ at_ <;> simp [hj]
theorem num_six {B : List Int} (h : ∀ x ∈ B, U8 x) (hl : 6 ≤ B.length) : num B = num (B.take 6) + 2 ^ 48 * num (B.drop 6) ∧ num (B.take 6) < 2 ^ 48 := by
  have e := num_append (B.take 6) (B.drop 6)
  have hlt := num_lt (B.take 6) (fun x hx => h x (List.mem_of_mem_take hx))
  rw [List.take_append_drop] at e
  have e6 : (B.take 6).length = 6 := by rw [List.length_take]; omega
  rw [e6] at e hlt
  exact ⟨e, hlt⟩
theorem ext_getD {A B : List Int} (hl : A.length = B.length) (h : ∀ j, A.getD j 0 = B.getD j 0) : A = B := ext_getD_int hl (fun j _ => h j)
/-- bits of the sum are turned: refused. -/
theorem turned_sum {p L : List Int} (hp : ∀ x ∈ p, U8 x) (hn : p.length ≤ 1024) {at_ n : Nat} (h : Turned (putL p) 2 6 at_ 32 L n) (h0 : n ≠ 0) : getTo L = ([], 0, 5) := by
  have hg := get_put (M := []) hp hn
  rw [List.append_nil] at hg
  have hlen := h.len
  rw [putL_len] at hlen
  have e0 := h.same 0 (by omega)
  have e1 := h.same 1 (by omega)
  have hlI : lenI L = lenI (putL p) := by unfold lenI; rw [e0, e1]
  have hpl : lenI (putL p) = p.length := by
    unfold lenI
    show (p.length : Int) / 256 * 256 + (p.length : Int) % 256 = _
    omega
  have hpay : payL L = payL (putL p) := by
    unfold payL
    rw [hlI]
    congr 1
    apply ext_getD (by rw [List.length_drop, List.length_drop, h.len])
    intro j
    have := h.same (6 + j) (by omega)
    simpa [List.getD_eq_getElem?_getD, List.getElem?_drop] using this
  have hpp : payL (putL p) = p := by
    unfold payL
    rw [hpl]
    have e : putL p = (headL p.length ++ tailL (sumL p)) ++ p := rfl
    rw [e, List.drop_append_of_le_length (by simp [headL, tailL])]
    simp [headL, tailL]
  have hsp : sumB (putL p) = sumL p := by
    have hs := sumL_in hp (by omega)
    unfold U32 at hs
    unfold sumB
    show sumL p / 16777216 * 16777216 + sumL p / 65536 % 256 * 65536 + sumL p / 256 % 256 * 256 + sumL p % 256 = _
    omega
  have hne : ¬ sumB L = sumL (payL L) := by
    rw [hpay, hpp, ← hsp]
    intro e
    have huL := h.u8
    have huB : ∀ x ∈ putL p, U8 x := putL_u8 hp (by omega)
    have a2 := getD_u8 huL 2
    have a3 := getD_u8 huL 3
    have a4 := getD_u8 huL 4
    have a5 := getD_u8 huL 5
    have b2 := getD_u8 huB 2
    have b3 := getD_u8 huB 3
    have b4 := getD_u8 huB 4
    have b5 := getD_u8 huB 5
    unfold U8 at a2 a3 a4 a5 b2 b3 b4 b5
    unfold sumB at e
    have heq : L = putL p := by
      apply ext_getD h.len
      intro j
      by_cases hj : j < 2 ∨ 6 ≤ j
      · exact h.same j hj
      · have : j = 2 ∨ j = 3 ∨ j = 4 ∨ j = 5 := by omega
        rcases this with rfl | rfl | rfl | rfl <;> omega
    obtain ⟨m, m1, m2, m3⟩ := h.some_ h0
    rw [heq] at m3
    have e2 := congrArg (fun z => num (putL p) ^^^ z) m3
    simp only [Nat.xor_self] at e2
    rw [← Nat.xor_assoc, Nat.xor_self, Nat.zero_xor] at e2
    have := Nat.two_pow_pos at_
    have := Nat.mul_pos (Nat.two_pow_pos at_) (show 0 < m by omega)
    omega
  unfold getTo
  rw [if_neg (by omega), if_neg (by rw [hlI, hpl]; omega), if_neg (by rw [hlI, hpl, hlen]; omega), if_neg hne]
/-- bits of the payload are turned: refused. -/
theorem turned_pay {p L : List Int} (hp : ∀ x ∈ p, U8 x) (hn : p.length ≤ 1024) {at_ n : Nat} (ha : 48 ≤ at_) (ha2 : at_ ≤ 48 + 8 * p.length) (h : Turned (putL p) 6 (6 + p.length) at_ 32 L n) (h0 : n ≠ 0) : getTo L = ([], 0, 5) := by
  have hlen := h.len
  rw [putL_len] at hlen
  have e0 := h.same 0 (by omega)
  have e1 := h.same 1 (by omega)
  have e2 := h.same 2 (by omega)
  have e3 := h.same 3 (by omega)
  have e4 := h.same 4 (by omega)
  have e5 := h.same 5 (by omega)
  have hlI : lenI L = lenI (putL p) := by unfold lenI; rw [e0, e1]
  have hpl : lenI (putL p) = p.length := by
    unfold lenI
    show (p.length : Int) / 256 * 256 + (p.length : Int) % 256 = _
    omega
  have hsp : sumB L = sumL p := by
    have hs := sumL_in hp (by omega)
    unfold U32 at hs
    unfold sumB
    rw [e2, e3, e4, e5]
    show sumL p / 16777216 * 16777216 + sumL p / 65536 % 256 * 65536 + sumL p / 256 % 256 * 256 + sumL p % 256 = _
    omega
  have hpay : payL L = L.drop 6 := by
    unfold payL
    rw [hlI, hpl]
    exact List.take_of_length_le (by rw [List.length_drop, hlen]; omega)
  have hdp : (putL p).drop 6 = p := by
    have e : putL p = (headL p.length ++ tailL (sumL p)) ++ p := rfl
    rw [e, List.drop_append_of_le_length (by simp [headL, tailL])]
    simp [headL, tailL]
  have htk : L.take 6 = (putL p).take 6 := by
    apply ext_getD (by rw [List.length_take, List.length_take, h.len])
    intro j
    by_cases hj : j < 6
    · have := h.same j (by omega)
      simpa [List.getD_eq_getElem?_getD, List.getElem?_take, hj] using this
    · simp [List.getD_eq_getElem?_getD, List.getElem?_take, hj]
  have hne : ¬ sumB L = sumL (payL L) := by
    rw [hpay, hsp]
    obtain ⟨m, m1, m2, m3⟩ := h.some_ h0
    obtain ⟨k1, k2⟩ := num_six h.u8 (by omega)
    obtain ⟨j1, j2⟩ := num_six (putL_u8 hp (by omega)) (by rw [putL_len]; omega)
    rw [k1, j1, htk, hdp, low_xor j2, low_xor j2, Nat.xor_assoc] at m3
    have m4 := congrArg (fun z => num ((putL p).take 6) ^^^ z) m3
    rw [← Nat.xor_assoc, ← Nat.xor_assoc, Nat.xor_self, Nat.zero_xor, Nat.zero_xor] at m4
    have m5 : num (L.drop 6) = num p ^^^ (2 ^ (at_ - 48) * m) := by
      have e : 2 ^ at_ * m = 2 ^ 48 * (2 ^ (at_ - 48) * m) := by rw [← Nat.mul_assoc, ← Nat.pow_add]; congr 2; omega
      rw [e] at m4
      apply Nat.eq_of_testBit_eq
      intro i
      have := congrArg (fun z => z.testBit (48 + i)) m4
      rw [Nat.testBit_xor]
      generalize 2 ^ (at_ - 48) * m = z at this ⊢
      simp only [Nat.testBit_two_pow_mul, Nat.testBit_xor] at this
      simpa using this
    exact sumL_burst hp (fun x hx => h.u8 x (List.mem_of_mem_drop hx)) (by rw [List.length_drop, hlen]; omega) (by omega) (at_ - 48) m (by omega) m1 m2 m5
  unfold getTo
  rw [if_neg (by omega), if_neg (by rw [hlI, hpl]; omega), if_neg (by rw [hlI, hpl, hlen]; omega), if_neg hne]
end Go.Proofs.Ytjpbmapnagkonaa
