/-
  What is proved here: append onto a row of the call's own, of which all cells, the spare ones too, are of one make (Good): the row stays so. Over any program. Conditions: none beyond each theorem's own.
-/
import Derived.Test.YtmmikolcipcldaaCore2
import Derived.OwnWalk
import Derived.Deep.AppendLies
namespace Go.Proofs.Ytmmikolcipcldaa
open Go.RowKit Go.Deep

/-- A slice value that is nil, or lies at the head of a row of the call's own all of whose cells are Good. -/
def OwnG (Good : Value → Prop) (w : World) (base : Nat) (e : TypeId) (size : Nat) (v : Value) (n : Nat) (xs : List Value) : Prop :=
  w.ownsRow base e size v n xs ∧ ∀ g c cur, v = .slice (some ⟨g, 0, none⟩) n c → w.heap[g]? = some (.cells cur e (0, 0)) → ∀ u ∈ cur.toList, Good u

section
variable {P : Program} {Good : Value → Prop} {w w' : World} {base : Nat} {e : TypeId} {size n : Nat} {v : Value} {xs : List Value}
theorem OwnG.nil_ (w : World) (base : Nat) (e : TypeId) (size : Nat) : OwnG Good w base e size (.slice none 0 0) 0 [] :=
  ⟨⟨by simp, .inl ⟨rfl, rfl⟩⟩, fun _ _ _ h => by cases h⟩
theorem own_block_lt (h : w.ownsRow base e size v n xs) {g c : Nat} (hv : v = .slice (some ⟨g, 0, none⟩) n c) : base ≤ g ∧ g < w.heap.size :=
  h.lt g (by rw [hv]; rfl)
theorem OwnG.keep (h : OwnG Good w base e size v n xs) (hs : w.heap.size ≤ w'.heap.size) (hb : ∀ k, k < w.heap.size → w'.heap[k]? = w.heap[k]?) (ho : w'.os = w.os) (ht : w'.tape = w.tape) (hp : w'.output = w.output) : OwnG Good w' base e size v n xs := by
  refine ⟨h.1.kept (row := none) ⟨ho, ht, hp, hs, fun i hi _ => hb i hi⟩ (by cases v.ownBlock <;> simp), fun g c cur hv hg => ?_⟩
  have := (own_block_lt h.1 hv).2
  rw [hb g this] at hg
  exact h.2 g c cur hv hg
theorem OwnG.below (h : OwnG Good w base e size v n xs) (hb : Below w.heap.size w w') : OwnG Good w' base e size v n xs :=
  h.keep hb.size (fun k hk => hb.block k hk) hb.os hb.tape hb.output
theorem OwnG.alloc (h : OwnG Good w base e size v n xs) (o : Obj) : OwnG Good (w.alloc o) base e size v n xs :=
  h.keep (by simp) (fun k hk => Below.heap_alloc w o k hk) rfl rfl rfl
theorem OwnG.drew (h : OwnG Good w base e size v n xs) : OwnG Good w.drew base e size v n xs :=
  h.keep (Nat.le_refl _) (fun _ _ => rfl) rfl rfl rfl

theorem mem_zeroCells {z : Array Value} {k : Nat} {u : Value} (h : u ∈ (Builtin.zeroCells z k).toList) : u ∈ z.toList := by
  simp only [Builtin.zeroCells, Array.toList_map, List.mem_map] at h
  obtain ⟨j, hj, e⟩ := h
  have hj' : j < k * z.size := by simpa using hj
  have hz : 0 < z.size := by
    rcases Nat.eq_zero_or_pos z.size with h0 | h0
    · rw [h0, Nat.mul_zero] at hj'; omega
    · exact h0
  have hlt := Nat.mod_lt j hz
  rw [getElem!_pos z (j % z.size) hlt] at e
  rw [← e]
  simp
end

section
variable {P : Program} (w : World)
theorem run_append_G (Good : Value → Prop) (base : Nat) (t ty e : TypeId) (i : TypeInfo) (z : Value) (size bytes : Nat) (ht : P.underlying t = some (.slice e)) (hi : P.info? e = some i) (hz : i.zero = some z)
    (hsize : i.size = size) (hby : i.bytes = bytes) (hzs : z.cells.size = size) (hsz : 0 < size)
    (v : Value) (n : Nat) (xs : List Value) (hown : OwnG Good w base e size v n xs)
    (a : Addr) (m c : Nat) (news : List Value) (hl : news.length = m * size) (hnews : ∀ j u, news[j]? = some u → w.cell? (a.add j) = some u) (h1 : ∀ u ∈ news, u.oneCell' = true)
    (h63 : n + m ≤ maxLen) (hbytes : (n + m) * bytes ≤ 140737488355328) (hbase : base ≤ w.heap.size)
    (gz : ∀ u ∈ z.cells.toList, Good u) (gn : ∀ u ∈ news, Good u) (gx : ∀ u ∈ xs, Good u) :
    ∃ v' w', (Builtin.append_ #[t, t] ty #[v, .slice (some a) m c]).run P w = .ok v' w' ∧ OwnG Good w' base e size v' (n + m) (xs ++ news) ∧ w.grownBy w' v.ownBlock := by
  obtain ⟨v', w', hr, ho, hg, hn⟩ := run_append_own (P := P) w base t ty e i z size bytes ht hi hz hsize hby hzs hsz v n xs hown.1 a m c news hl hnews h1 h63 hbytes hbase
  refine ⟨v', w', hr, ⟨ho, fun g c' cur' hv' hg' => ?_⟩, hg⟩
  subst hsize
  rcases hown.1.2 with ⟨hvn, hn0⟩ | ⟨g0, cap, cur, hvs, hbg, hgg, hnc, hcm, hcs, htake⟩
  · subst hvn hn0
    have hx : xs = [] := List.eq_nil_of_length_eq_zero (by simpa using hown.1.1)
    subst hx
    have hm : m ≠ 0 := by
      intro h0
      have := hn.2 ⟨rfl, h0⟩
      rw [this] at hv'
      cases hv'
    have hr2 := run_append_nil (P := P) w t ty e i z ht hi hz a m c news hl hnews (by omega) (by simp only [maxLen] at h63; omega) (by have hb := hbytes; simp only [Nat.zero_add] at hb; rw [hby]; omega)
    rw [hr] at hr2
    injection hr2 with e1 e2
    subst e1 e2
    injection hv' with hv1
    injection hv1 with hv2
    injection hv2 with hv3
    subst hv3
    have hc := (heap_alloc_new w.drew (.cells (news.toArray ++ Builtin.zeroCells z.cells (grownCap w m 0 e - m)) e)).symm.trans hg'
    injection hc with hc
    injection hc with hc
    subst hc
    intro u hu
    rw [Array.toList_append, List.mem_append] at hu
    rcases hu with hu | hu
    · exact gn u (by simpa using hu)
    · exact gz u (mem_zeroCells hu)
  · subst hvs
    have hcur := hown.2 g0 cap cur rfl hgg
    by_cases hroom : n + m ≤ cap
    · have hfit : n * i.size + news.length ≤ cur.size := by rw [hl, hcs, ← Nat.add_mul]; exact Nat.mul_le_mul_right _ hroom
      have hr2 := run_append_room (P := P) w t ty e i ht hi g0 n cap cur hgg a m c news hl hnews h1 hroom hfit
      rw [hr] at hr2
      injection hr2 with e1 e2
      subst e1 e2
      injection hv' with hv1
      injection hv1 with hv2
      injection hv2 with hv3
      subst hv3
      rw [setRow_heap w g0 cur _ e _ hgg] at hg'
      injection hg' with hc
      injection hc with hc
      subst hc
      intro u hu
      simp only [List.mem_append] at hu
      rcases hu with (hu | hu) | hu
      · exact hcur u (List.mem_of_mem_take hu)
      · exact gn u hu
      · exact hcur u (List.mem_of_mem_drop hu)
    · have holds : ∀ j u, xs[j]? = some u → w.cell? ((⟨g0, 0, none⟩ : Addr).add j) = some u := hown.1.cells (g := g0) rfl
      have hr2 := run_append_grow (P := P) w t ty e i z ht hi hz ⟨g0, 0, none⟩ n cap xs hown.1.1 holds a m c news hl hnews (by omega) (by simp only [maxLen] at h63; omega) (growslice_fits (by omega) (by rw [hby]; exact hbytes))
      rw [hr] at hr2
      injection hr2 with e1 e2
      subst e1 e2
      injection hv' with hv1
      injection hv1 with hv2
      injection hv2 with hv3
      subst hv3
      have hc := (heap_alloc_new w.drew (.cells (xs.toArray ++ news.toArray ++ Builtin.zeroCells z.cells (grownCap w (n + m) cap e - (n + m))) e)).symm.trans hg'
      injection hc with hc
      injection hc with hc
      subst hc
      intro u hu
      simp only [Array.toList_append, List.mem_append] at hu
      rcases hu with (hu | hu) | hu
      · exact gx u (by simpa using hu)
      · exact gn u (by simpa using hu)
      · exact gz u (mem_zeroCells hu)

theorem wpList_append_G {ops : Array Oper} {rest : List Oper} {o : Oper} {a : Act} {Q : Exit → Act → World → Prop} (hgd : o.guard = none) (s x : Operand) (t : TypeId)
    (ho : o.op = .call { callee := .builtin .append, args := #[s, x], argTypes := #[t, t] })
    (Good : Value → Prop) (base : Nat) (e : TypeId) (i : TypeInfo) (z : Value) (size bytes : Nat) (ht : P.underlying t = some (.slice e)) (hi : P.info? e = some i) (hz : i.zero = some z)
    (hsize : i.size = size) (hby : i.bytes = bytes) (hzs : z.cells.size = size) (hsz : 0 < size)
    (v : Value) (n : Nat) (xs : List Value) (hs : a.eval s = v) (hown : OwnG Good w base e size v n xs)
    (ad : Addr) (m c : Nat) (news : List Value) (hx : a.eval x = .slice (some ad) m c) (hl : news.length = m * size) (hnews : ∀ j u, news[j]? = some u → w.cell? (ad.add j) = some u) (h1 : ∀ u ∈ news, u.oneCell' = true)
    (h63 : n + m ≤ maxLen) (hbytes : (n + m) * bytes ≤ 140737488355328) (hbase : base ≤ w.heap.size)
    (gz : ∀ u ∈ z.cells.toList, Good u) (gn : ∀ u ∈ news, Good u) (gx : ∀ u ∈ xs, Good u)
    (h : ∀ v' w', OwnG Good w' base e size v' (n + m) (xs ++ news) → w.grownBy w' v.ownBlock → wpList P ops Q rest (a.put o.dst v') w') : wpList P ops Q (o :: rest) a w := by
  refine wpList_plain hgd fun _ hK => ?_
  obtain ⟨v', w', hr, h2, h3⟩ := run_append_G (P := P) w Good base t o.type e i z size bytes ht hi hz hsize hby hzs hsz v n xs hown ad m c news hl hnews h1 h63 hbytes hbase gz gn gx
  unfold Oper.wp execOp
  simp only [ho, resolve, invoke, builtin, Sem.run_bind, Sem.run_pure, Result.andThen_ok, List.map_toArray, List.map_cons, List.map_nil, hs, hx, hr]
  exact hK _ _ (h v' w' h2 h3)
end
end Go.Proofs.Ytmmikolcipcldaa
