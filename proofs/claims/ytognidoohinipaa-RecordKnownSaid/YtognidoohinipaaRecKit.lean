/-
  What is proved here: a text's bytes behind others; what a row of bytes of the call's own reads as; a record's bytes (chapter 11). Conditions: each theorem's own.
-/
import Derived.Test.YtognidoohinipaaRecREight
import Derived.Lib.AppendStr
import Derived.Deep.RegionHeld3
namespace Go.Proofs.Ytognidoohinipaa
open Go.RowKit Go.Deep Go.Joins Go.WideShapes

def strL (g : ByteArray) : List Int := g.data.toList.map fun b => (b.toNat : Int)
theorem strL_len (g : ByteArray) : (strL g).length = g.size := by
  rw [strL, List.length_map, Array.length_toList]
  rfl
theorem strL_cells (g : ByteArray) : Lib.strCells g = (strL g).map (Value.int .u8) := by simp [Lib.strCells, strL]
theorem step_append_str {P : Program} {w : World} {ops : Array Oper} {o : Oper} {a : Act} {K : Act → World → Prop} {Q : Exit → Act → World → Prop} {E : Prop} (hgd : o.guard = none) (sl x : Operand) (t u : TypeId)
    (ho : o.op = .call { callee := .builtin .append, args := #[sl, x], argTypes := #[t, u] })
    (base : Nat) (e : TypeId) (i : TypeInfo) (ht : P.underlying t = some (.slice e)) (hu : P.underlying u = some .string) (hi : P.info? e = some i) (hz : i.zero = some (.int .u8 0))
    (hsize : i.size = 1) (hby : i.bytes = 1)
    (v : Value) (n : Nat) (L : List Int) (hs : a.eval sl = v) (hown : OwnG Tr w base e 1 v n (L.map (Value.int .u8))) (s : ByteArray) (hx : a.eval x = .string s)
    (h63 : n + s.size ≤ maxLen) (hbytes : n + s.size ≤ 140737488355328) (hbase : base ≤ w.heap.size)
    (h : ∀ v' w', OwnG Tr w' base e 1 v' (n + s.size) ((L ++ strL s).map (Value.int .u8)) → w.grownBy w' v.ownBlock → K (a.put o.dst v') w') :
    if Region.wanted o (yielded ops a.tmps) = true then Oper.wp P o a w K Q else E := by
  have hw : Region.wanted o (yielded ops a.tmps) = true := by simp [Region.wanted, hgd]
  rw [if_pos hw]
  obtain ⟨v', w', hr, h2, h3, h4⟩ := Lib.run_append_own_string (P := P) w base t u o.type e i ht hu hi hz hsize hby v n _ hown.1 s h63 hbytes hbase
  rw [strL_cells, ← List.map_append] at h2
  unfold Oper.wp execOp
  simp only [ho, resolve, invoke, builtin, Sem.run_bind, Sem.run_pure, Result.andThen_ok, List.map_toArray, List.map_cons, List.map_nil, hs, hx, hr]
  exact h v' w' (own_tr h2) h3
theorem step_append_G {P : Program} {w : World} {ops : Array Oper} {o : Oper} {a : Act} {K : Act → World → Prop} {Q : Exit → Act → World → Prop} {E : Prop} (hgd : o.guard = none) (s x : Operand) (t : TypeId)
    (ho : o.op = .call { callee := .builtin .append, args := #[s, x], argTypes := #[t, t] })
    (Good : Value → Prop) (base : Nat) (e : TypeId) (i : TypeInfo) (z : Value) (size bytes : Nat) (ht : P.underlying t = some (.slice e)) (hi : P.info? e = some i) (hz : i.zero = some z)
    (hsize : i.size = size) (hby : i.bytes = bytes) (hzs : z.cells.size = size) (hsz : 0 < size)
    (v : Value) (n : Nat) (xs : List Value) (hs : a.eval s = v) (hown : OwnG Good w base e size v n xs)
    (ad : Addr) (m c : Nat) (news : List Value) (hx : a.eval x = .slice (some ad) m c) (hl : news.length = m * size) (hnews : ∀ j u, news[j]? = some u → w.cell? (ad.add j) = some u) (h1 : ∀ u ∈ news, u.oneCell' = true)
    (h63 : n + m ≤ maxLen) (hbytes : (n + m) * bytes ≤ 140737488355328) (hbase : base ≤ w.heap.size)
    (gz : ∀ u ∈ z.cells.toList, Good u) (gn : ∀ u ∈ news, Good u) (gx : ∀ u ∈ xs, Good u)
    (h : ∀ v' w', OwnG Good w' base e size v' (n + m) (xs ++ news) → w.grownBy w' v.ownBlock → K (a.put o.dst v') w') :
    if Region.wanted o (yielded ops a.tmps) = true then Oper.wp P o a w K Q else E := by
  have hw : Region.wanted o (yielded ops a.tmps) = true := by simp [Region.wanted, hgd]
  rw [if_pos hw]
  obtain ⟨v', w', hr, h2, h3⟩ := run_append_G (P := P) w Good base t o.type e i z size bytes ht hi hz hsize hby hzs hsz v n xs hown ad m c news hl hnews h1 h63 hbytes hbase gz gn gx
  unfold Oper.wp execOp
  simp only [ho, resolve, invoke, builtin, Sem.run_bind, Sem.run_pure, Result.andThen_ok, List.map_toArray, List.map_cons, List.map_nil, hs, hx, hr]
  exact h v' w' h2 h3
theorem own_new {E : TypeId} (w : World) (L : List Int) (base : Nat) (hb : base ≤ w.heap.size) (hm : L.length ≤ 1000000) (cs : Array Value) (e : cs.toList = L.map (Value.int .u8)) :
    OwnG Tr (w.alloc (.cells cs E)) base E 1 (.slice (some ⟨w.heap.size, 0, none⟩) L.length L.length) L.length (L.map (Value.int .u8)) := by
  refine own_tr ⟨by simp, .inr ⟨w.heap.size, L.length, cs, rfl, hb, Blk.new w E cs, Nat.le_refl _, by unfold maxLen; omega, ?_, ?_⟩⟩
  · rw [← Array.length_toList, e, List.length_map, Nat.mul_one]
  · rw [e]; exact List.take_of_length_le (by simp)
theorem own_ints {w : World} {base n c : Nat} {A : Option Addr} {L : List Int} (h : OwnG Tr w base 5 1 (.slice A n c) n (L.map (Value.int .u8))) : IntsAt .u8 w A L := by
  have hn : L.length = n := by have := h.1.1; simpa using this
  subst hn
  intro hp
  rcases h.1.2 with ⟨_, h0⟩ | ⟨g, cap, cur, hv, hb, hh, hnc, hm, hs, ht⟩
  · omega
  cases hv
  have hlt : g < w.heap.size := (show Blk w g 5 cur from hh).lt
  refine ⟨g, 0, rfl, hlt, fun i hi => ?_⟩
  have hc := cell_of_row w g i cur 5 (0, 0) hh
  have e4 : (cur.toList.take (L.length * 1))[i]? = (L.map (Value.int .u8))[i]? := by rw [ht]
  rw [List.getElem?_take, if_pos (by omega), ints_get .u8 L i hi, Array.getElem?_toList] at e4
  rw [Nat.zero_add, hc, e4]
theorem own_cap {w : World} {base n c : Nat} {A : Option Addr} {xs : List Value} (h : OwnG Tr w base 5 1 (.slice A n c) n xs) : n ≤ c ∧ (A = none → c = 0) := by
  rcases h.1.2 with ⟨e, h0⟩ | ⟨g, cap, cur, e, _, _, h1, _⟩
  · cases e; exact ⟨Nat.le_refl _, fun _ => rfl⟩
  · cases e; exact ⟨h1, fun e => by cases e⟩

/-- a record's bytes. -/
def recL (r : Rec) : List Int := [r.k % 256] ++ be8 r.t ++ (if tagK r.k then [(r.g.size : Int) % 256] ++ strL r.g else []) ++ (if namK r.k then be8 r.i else []) ++ (if r.k = 5 then [] else be8 r.v)
def putR (r : Rec) : List Int × Int := if recErr r = 0 then (recL r, 0) else ([], recErr r)
def PutBack (L : List Int) (n : Int) (w : World) (e : Ending) (w' : World) : Prop :=
  ∃ A cap, e = .returned (.tuple #[.slice A L.length cap, .int .i64 n]) ∧ OwnG Tr w' w.heap.size 5 1 (.slice A L.length cap) L.length (L.map (Value.int .u8)) ∧ Below w.heap.size w w'
end Go.Proofs.Ytognidoohinipaa
