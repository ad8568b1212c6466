/-
  What is proved here: a list literal of tags lays them in a row (chapter 9). Conditions: each theorem's own.
-/
import Derived.Test.YthnhholpkomdhaaTagRows
namespace Go.Proofs.Ythnhholpkomdhaa
open Go.RowKit Go.Deep

theorem foldl_set (off : Nat) : ∀ (vs : List Value) (n : Nat) (cs : Array Value), ((vs.zipIdx n).foldl (fun (cs : Array Value) (p : Value × Nat) => cs.setIfInBounds (off + p.2) p.1) cs).size = cs.size ∧
    ∀ j, ((vs.zipIdx n).foldl (fun (cs : Array Value) (p : Value × Nat) => cs.setIfInBounds (off + p.2) p.1) cs)[j]? = if off + n ≤ j ∧ j < off + n + vs.length ∧ j < cs.size then vs[j - (off + n)]? else cs[j]?
  | [], n, cs => by
    refine ⟨rfl, fun j => ?_⟩
    rw [if_neg (by simp; omega)]
    rfl
  | v :: vs, n, cs => by
    rw [List.zipIdx_cons, List.foldl_cons]
    obtain ⟨h1, h2⟩ := foldl_set off vs (n + 1) (cs.setIfInBounds (off + n) v)
    refine ⟨by rw [h1]; simp, fun j => ?_⟩
    rw [h2 j]
    simp only [Array.size_setIfInBounds, List.length_cons]
    by_cases hj : off + (n + 1) ≤ j ∧ j < off + (n + 1) + vs.length ∧ j < cs.size
    · rw [if_pos hj, if_pos (by omega), show j - (off + n) = (j - (off + (n + 1))) + 1 by omega, List.getElem?_cons_succ]
    · rw [if_neg hj]
      by_cases e : j = off + n
      · subst e
        rw [Array.getElem?_setIfInBounds]
        by_cases hs : off + n < cs.size
        · rw [if_pos rfl, if_pos hs, if_pos (by omega)]
          simp
        · rw [if_pos rfl, if_neg hs, if_neg (by omega)]
          simp
          omega
      · rw [Array.getElem?_setIfInBounds, if_neg (Ne.symm e)]
        rw [if_neg (by omega)]

theorem fill_rows (s : Nat) : ∀ (vs : List (Array Value)) (k : Nat) (cs : Array Value), (∀ v ∈ vs, v.size = s) → cs.size = (k + vs.length) * s →
    Instr.fill (fun i => some (i * s, s)) cs ((vs.zipIdx k).map fun p => (p.2, Value.agg p.1)) = some (cs.extract 0 (k * s) ++ (vs.flatMap Array.toList).toArray)
  | [], k, cs, _, h => by
    rw [show (([] : List (Array Value)).zipIdx k).map (fun p => (p.2, Value.agg p.1)) = [] from rfl, Instr.fill]
    congr 1
    rw [List.length_nil, Nat.add_zero] at h
    rw [← h]
    simp
  | v :: vs, k, cs, hv, h => by
    rw [List.zipIdx_cons, List.map_cons, Instr.fill]
    rw [List.length_cons, show (k + (vs.length + 1)) * s = k * s + s + vs.length * s by rw [Nat.add_mul, Nat.succ_mul]; omega] at h
    have hs : v.size = s := hv v (List.mem_cons_self ..)
    have hc : (Value.agg v).cells = v := rfl
    simp only [hc, hs]
    rw [if_neg (by simp; omega)]
    obtain ⟨f1, f2⟩ := foldl_set (k * s) v.toList 0 cs
    have hf : v.zipIdx.foldl (fun (cs : Array Value) (p : Value × Nat) => cs.setIfInBounds (k * s + p.2) p.1) cs = (v.toList.zipIdx 0).foldl (fun (cs : Array Value) (p : Value × Nat) => cs.setIfInBounds (k * s + p.2) p.1) cs := by
      rw [← Array.foldl_toList, Array.toList_zipIdx]
    rw [hf, fill_rows s vs (k + 1) _ (fun u hu => hv u (List.mem_cons_of_mem _ hu)) (by rw [f1, h, Nat.add_mul, Nat.succ_mul])]
    congr 1
    rw [List.flatMap_cons, ← List.append_toArray, ← Array.append_assoc]
    simp only [Array.toArray_toList]
    congr 1
    apply Array.ext_getElem?
    intro j
    rw [Array.getElem?_extract, Nat.zero_add, f2 j, Array.getElem?_append, Array.size_extract, Array.getElem?_extract, Nat.zero_add, f1, Nat.add_zero, Array.length_toList, hs, Nat.succ_mul]
    by_cases h1 : j < k * s
    · rw [if_pos (by omega), if_neg (by omega), if_pos (by omega), if_pos (by omega)]
    · rw [if_neg (show ¬ j < min (k * s) cs.size - 0 by omega)]
      by_cases h2 : j < k * s + s
      · rw [if_pos (by omega), if_pos (by omega), Array.getElem?_toList, Nat.add_zero, show min (k * s) cs.size - 0 = k * s by omega]
      · rw [if_neg (by omega), Array.getElem?_eq_none (by omega)]
/-- tags in a row. -/
def rowOf (L : List Tag) : Array Value := ((L.map Tag.cells).flatMap Array.toList).toArray
/-- a list literal of tags. -/
def mkTags (n : Nat) (ps : Array (Nat × Value)) : Sem Value := Instr.buildSlice 35 n ps
theorem mkTags_eq (n : Nat) (ps : Array (Nat × Value)) : Instr.buildSlice 35 n ps = mkTags n ps := rfl
theorem run_mkTags (w : World) (ts : List Tag) (n : Nat) (ps : Array (Nat × Value)) (hts : ts.length = n) (hps : ps.toList = ((ts.map Tag.cells).zipIdx 0).map fun p => (p.2, Value.agg p.1)) (h0 : 0 < n) (hn : n * 19 ≤ 16777216) :
    (mkTags n ps).run Try.prog w = .ok (.slice (some ⟨w.heap.size, 0, none⟩) n n) (w.alloc (.cells (rowOf ts) 29)) := by
  subst hts
  obtain ⟨i0, hi0, hz0, hz1, hz2⟩ := info_parts infoT
  have hf : ∀ z : Array Value, z.size = ts.length * 19 → Instr.fill (fun i => some (i * 19, 19)) z ps.toList = some (rowOf ts) := by
    intro z hz
    rw [hps, fill_rows 19 (ts.map Tag.cells) 0 z (fun v hv => by obtain ⟨t, _, rfl⟩ := List.mem_map.1 hv; exact t.size) (by rw [hz, Nat.zero_add, List.length_map])]
    congr 1
    simp [rowOf]
  unfold mkTags Instr.buildSlice
  simp [Sem.run_bind, run_underlying Try.underlying35, sizeOf, typeInfo, hi0, hz1, zeroValue, hz0]
  rw [if_neg (by omega)]
  rw [if_neg (by omega), hf _ (by simp)]
  simp [newRow]
end Go.Proofs.Ythnhholpkomdhaa
