/-
  What is proved here: Put of any payload; lists of bytes that lie in zones of their own share no memory (chapter 13). Conditions: each theorem's own.
-/
import Derived.Test.YtjpbmapnagkonaaChkRScan
import Derived.Test.YtjpbmapnagkonaaKitRows
namespace Go.Proofs.Ytjpbmapnagkonaa
open Go.RowKit Go.Deep Go.Joins Go.WideShapes

def putO (L : List Int) : List Int × Int := if 1024 < L.length then ([], 2) else (putL L, 0)
theorem put_all (A : Option Addr) (n cap : Nat) (L Q : List Int) (e : Int) (w : World) (h : putO L = (Q, e)) (hln : L.length = n) (hA : IntsAt .u8 w A L) (hcap : A = none → cap = 0) (hL : ∀ x ∈ L, U8 x) (hn : n ≤ 140737488351232) :
    Calls Try.prog 11 #[.slice A n cap] w (PutBack Q Q.length e w) := by
  unfold putO at h
  by_cases c : 1024 < n
  · rw [if_pos (by omega)] at h
    cases h
    exact put_long A cap n w c hn
  · rw [if_neg (by omega)] at h
    cases h
    rw [putL_len, hln]
    exact put_any A cap n L w hln hA hcap hL (by omega)
theorem rput_all (A : Option Addr) (n cap : Nat) (L Q : List Int) (e : Int) (w : World) (h : putO L = (Q, e)) (hln : L.length = n) (hA : IntsAt .u8 w A L) (hcap : A = none → cap = 0) (hL : ∀ x ∈ L, U8 x) :
    Calls Try.prog 21 #[.slice A n cap] w (PutBack Q Q.length e w) := by
  unfold putO at h
  by_cases c : 1024 < n
  · rw [if_pos (by omega)] at h
    cases h
    exact rput_long A cap n w c
  · rw [if_neg (by omega)] at h
    cases h
    rw [putL_len, hln]
    exact rput_any A cap n L w hln hA hcap hL (by omega)

/-- a list of bytes in memory of its own, its block within a zone. -/
structure Zone (w : World) (v : Value) (n lo hi : Nat) : Prop where
  row : Row .u8 5 w v n
  fits : n ≤ 140737488351232
  zone : ∀ b, v.ownBlock = some b → lo ≤ b ∧ b < hi
theorem Zone.below {w w' : World} {v : Value} {n lo hi : Nat} (h : Zone w v n lo hi) (hb : Below w.heap.size w w') : Zone w' v n lo hi := ⟨h.row.below hb, h.fits, h.zone⟩
theorem zone_own {w : World} {base n cap : Nat} {A : Option Addr} {L : List Int} (hl : L.length = n) (h : OwnG (IsIntK .u8) w base 5 1 (.slice A n cap) n (L.map (Value.int .u8))) (hn : n ≤ 140737488351232) : Zone w (.slice A n cap) n base w.heap.size := by
  subst hl
  exact ⟨row_of_own h, hn, fun b hb => ⟨base_of_own h hb, (row_of_own h).lt hb⟩⟩
theorem zone_row {w : World} {g n m base : Nat} {L : List Int} (h : IRow .u8 5 w g m L) (hb : base ≤ g) (hn : n ≤ m) (hm : n ≤ 140737488351232) (hm2 : m ≤ 9223372036854775807) : Zone w (.slice (some ⟨g, 0, none⟩) n m) n base w.heap.size :=
  ⟨.inr ⟨g, m, rfl, hn, hm2, h.bare⟩, hm, fun b hb' => by cases hb'; exact ⟨hb, h.lt⟩⟩
/-- lists in zones of their own share no memory. -/
theorem apart_zone (base B c : Nat) (vs : List (Value × Nat × Nat × Nat)) (w : World)
    (hr : ∀ x ∈ vs, Zone w x.1 x.2.1 x.2.2.1 x.2.2.2 ∧ base ≤ x.2.2.1 ∧ x.2.2.2 ≤ B)
    (hp : vs.Pairwise (fun x y => x.2.2.2 ≤ y.2.2.1 ∨ y.2.2.2 ≤ x.2.2.1))
    (hc : ∀ i (h : i < vs.length), w.cell? ⟨B, i, none⟩ = some vs[i].1) (hB : B < w.heap.size) (hbase : base ≤ w.heap.size) (hlen : vs.length ≤ 1000) :
    Calls Try.prog 23 #[.slice (some ⟨B, 0, none⟩) vs.length c] w fun e w' => e = .returned (.bool true) ∧ Below base w w' := by
  have hm := Bytes.apart_many base B c (vs.map fun x => (x.1, x.2.1)) w ⟨fun i hi => ?_, hB, hbase, Below.refl _ _⟩ ⟨fun i k hi hk hne b h1 h2 => ?_, fun i hi b h1 => ?_, fun i hi => ?_⟩ (by simpa using hlen)
  · rw [List.length_map] at hm
    exact hm
  · rw [List.length_map] at hi
    simp only [List.getElem_map]
    exact ⟨(hr vs[i] (List.getElem_mem hi)).1.row, hc i hi⟩
  · rw [List.length_map] at hi hk
    simp only [List.getElem_map] at h1 h2
    have z1 := (hr vs[i] (List.getElem_mem hi)).1.zone b h1
    have z2 := (hr vs[k] (List.getElem_mem hk)).1.zone b h2
    rcases Nat.lt_or_ge i k with hik | hik
    · have := List.pairwise_iff_getElem.1 hp i k hi hk hik
      omega
    · have := List.pairwise_iff_getElem.1 hp k i hk hi (by omega)
      omega
  · rw [List.length_map] at hi
    simp only [List.getElem_map] at h1
    obtain ⟨z, h2, h3⟩ := hr vs[i] (List.getElem_mem hi)
    have z1 := z.zone b h1
    exact ⟨by omega, by omega⟩
  · rw [List.length_map] at hi
    simp only [List.getElem_map]
    have := (hr vs[i] (List.getElem_mem hi)).1.fits
    omega
theorem rows_first {w : World} {base n cap : Nat} {A : Option Addr} {Ps : List (List Int)} (h : RowsOwn w base (.slice A n cap) Ps) (hp : 0 < Ps.length) :
    ∃ g A0 c0, A = some ⟨g, 0, none⟩ ∧ g < w.heap.size ∧ w.cell? ⟨g, 0, none⟩ = some (.slice A0 (Ps.getD 0 []).length c0) ∧ OwnG (IsIntK .u8) w base 5 1 (.slice A0 (Ps.getD 0 []).length c0) (Ps.getD 0 []).length ((Ps.getD 0 []).map (Value.int .u8)) := by
  obtain ⟨xs, ho, hr⟩ := h
  rcases ho.1.2 with ⟨_, h0⟩ | ⟨g, c, cur, hv, hb, hh, hn, hm, hs, ht⟩
  · omega
  cases hv
  have hlt : g < w.heap.size := by
    rcases Nat.lt_or_ge g w.heap.size with hlt | hge
    · exact hlt
    · rw [Array.getElem?_eq_none hge] at hh; cases hh
  obtain ⟨Ai, ci, e1, e2⟩ := hr 0 hp
  refine ⟨g, Ai, ci, rfl, hlt, ?_, e2⟩
  have hc := cell_of_row w g 0 cur 22 (0, 0) hh
  rw [hc, ← Array.getElem?_toList]
  have e3 : (cur.toList.take (Ps.length * 1))[0]? = xs[0]? := by rw [ht]
  rw [List.getElem?_take, if_pos (by omega)] at e3
  rw [e3, e1]
theorem getTo_len {L P : List Int} {m e : Int} (h : getTo L = (P, m, e)) : P.length ≤ L.length := by
  unfold getTo at h
  split at h
  · cases h; simp
  split at h
  · cases h; simp
  split at h
  · cases h; simp
  split at h
  · cases h
    unfold payL
    rw [List.length_take, List.length_drop]
    omega
  · cases h; simp
theorem putO_len {L Q : List Int} {e : Int} (h : putO L = (Q, e)) : Q.length ≤ 1030 := by
  unfold putO at h
  split at h
  · cases h; simp
  · cases h; rw [putL_len]; omega
theorem scanN_len : ∀ (k : Nat) (L : List Int), ∀ P ∈ (scanN k L).1, P.length ≤ L.length
  | 0, _, P, h => by simp [scanN] at h
  | k + 1, L, P, h => by
    unfold scanN at h
    split at h
    · simp only [List.mem_cons] at h
      rcases h with rfl | h
      · exact getTo_len (m := (getTo L).2.1) (e := (getTo L).2.2) rfl
      · have := scanN_len k _ P h
        rw [List.length_drop] at this
        omega
    · cases h
theorem scanN_count : ∀ (k : Nat) (L : List Int), (scanN k L).1.length ≤ k
  | 0, _ => by simp [scanN]
  | k + 1, L => by
    unfold scanN
    split
    · simp only [List.length_cons]
      have := scanN_count k (L.drop (getTo L).2.1.toNat)
      omega
    · simp
end Go.Proofs.Ytjpbmapnagkonaa
