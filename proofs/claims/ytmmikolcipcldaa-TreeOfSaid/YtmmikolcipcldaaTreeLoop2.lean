/-
  What is proved here: nothing of the program: the steps of the loop of the builder's page (chapter 15). Conditions: each theorem's own.
-/
import Derived.Test.YtmmikolcipcldaaTreeLoop
namespace Go.Proofs.Ytmmikolcipcldaa
open Go.RowKit Go.Deep

/-- leaves once come by are how deep all leaves are. -/
theorem visL_keep {n : NdR} {g : Int → List Bool → Nat → Option Vs} (hg : ∀ k s lv r, 0 < lv → g k s lv = some r → r.leaves = lv) : ∀ (m i : Nat) (s r : Vs), 0 < s.leaves → visL n g m i s = some r → r.leaves = s.leaves
  | 0, i, s, r, _, h => by
    simp only [visL, Option.some.injEq] at h
    rw [h]
  | m + 1, i, s, r, hp, h => by
    unfold visL at h
    split at h
    · cases h
    · rename_i q hq
      have h1 := hg _ _ _ _ hp hq
      rw [visL_keep hg m (i + 1) ⟨q.seen, q.leaves, _⟩ r (by show 0 < q.leaves; omega) h]
      exact h1
theorem vis_keep {l : List NdR} {d : Nat} : ∀ (f : Nat) (at_ : Int) (deep : Nat) (seen : List Bool) (leaves : Nat) (r : Vs), 0 < leaves → vis l d f at_ deep seen leaves = some r → r.leaves = leaves
  | 0, _, _, _, _, _, _, h => by cases h
  | f + 1, at_, deep, seen, leaves, r, hp, h => by
    rw [vis] at h
    split at h
    · cases h
    · split at h
      · cases h
      · split at h
        · split at h
          · split at h
            · rename_i hl
              cases h
              show deep = leaves
              omega
            · cases h
          · exact visL_keep (fun k s lv r hlv hr => vis_keep f k (deep + 1) s lv r hlv hr) _ _ ⟨_, leaves, []⟩ r hp h
        · cases h

/-- what the loop has come to ahead of its i-th round. -/
structure Lp (x : Cx) (i : Nat) (P : Pg) (Mi : Nat → Option Pg) (acc : Vs) (X : World) : Prop where
  th : TH x.B X Mi
  fr : Fr [x.b, x.sb] x.M x.W Mi X
  ext : ∀ q, x.M q ≠ none → Mi q = x.M q
  at_ : Mi x.pb = some P
  new : x.M x.pb = none
  ks : P.ks = x.n.ks
  vs : P.vs = x.n.vs
  bd : BdAt X x.b x.sb x.d x.lv ((x.S.takes acc.es).with_ acc.seen acc.leaves)
  seen : acc.seen.length = x.nds.length
  zero : acc.seen.getD 0 true = true
  uns : unseen acc.seen ≤ unseen x.sn
  cnt : acc.es.length + 31 * unseen acc.seen ≤ 31 * unseen x.sn + min i x.n.ks.length
  wrong : (x.S.takes acc.es).wrong = false
  nbk : Blk X x.nb 60 #[x.kv, x.vv, x.cv]
  low : Below x.w0.heap.size x.w0 X
  leaf : x.n.kids.length = 0 → P.kids = [] ∧ acc.seen = x.sn ∧ acc.leaves = x.deep ∧ acc.es = x.n.ents (min i x.n.ks.length)
  node : x.n.kids.length ≠ 0 → P.kids.length = i ∧ visL x.n x.g (x.n.ks.length + 1) 0 ⟨x.sn, x.S.leaves, []⟩ = visL x.n x.g (x.n.ks.length + 1 - i) i acc ∧
    ∃ (h : Nat) (c : Nat → List En) (fk : Nat → List Nat), (∀ j, j < i → Tr x.d Mi h (x.d - 1) (P.kids.getD j 0) (c j) (fk j)) ∧ acc.es = part c P i ∧ (0 < i → acc.leaves = x.deep + 1 + h) ∧
      (∀ j, j < i → (fk j).Nodup ∧ ∀ q ∈ fk j, x.M q = none ∧ q ≠ x.pb) ∧ (∀ j k, j < i → k < i → j ≠ k → ∀ q ∈ fk j, q ∉ fk k)
/-- behind the i-th kid, ahead of the key. -/
structure Half (x : Cx) (i : Nat) (P : Pg) (Mi : Nat → Option Pg) (acc : Vs) (X : World) : Prop where
  th : TH x.B X Mi
  fr : Fr [x.b, x.sb] x.M x.W Mi X
  ext : ∀ q, x.M q ≠ none → Mi q = x.M q
  at_ : Mi x.pb = some P
  new : x.M x.pb = none
  ks : P.ks = x.n.ks
  vs : P.vs = x.n.vs
  bd : BdAt X x.b x.sb x.d x.lv ((x.S.takes acc.es).with_ acc.seen acc.leaves)
  seen : acc.seen.length = x.nds.length
  zero : acc.seen.getD 0 true = true
  uns : unseen acc.seen ≤ unseen x.sn
  cnt : acc.es.length + 31 * unseen acc.seen ≤ 31 * unseen x.sn + min i x.n.ks.length
  wrong : (x.S.takes acc.es).wrong = false
  nbk : Blk X x.nb 60 #[x.kv, x.vv, x.cv]
  low : Below x.w0.heap.size x.w0 X
  leaf : x.n.kids.length = 0 → P.kids = [] ∧ acc.seen = x.sn ∧ acc.leaves = x.deep ∧ acc.es = x.n.ents (min i x.n.ks.length)
  node : x.n.kids.length ≠ 0 → P.kids.length = i + 1 ∧ visL x.n x.g (x.n.ks.length + 1) 0 ⟨x.sn, x.S.leaves, []⟩ = visL x.n x.g (x.n.ks.length - i) (i + 1) ⟨acc.seen, acc.leaves, acc.es ++ (if i < x.n.ks.length then [x.n.ent i] else [])⟩ ∧
    ∃ (h : Nat) (c : Nat → List En) (fk : Nat → List Nat), (∀ j, j < i + 1 → Tr x.d Mi h (x.d - 1) (P.kids.getD j 0) (c j) (fk j)) ∧ acc.es = part c P i ++ c i ∧ acc.leaves = x.deep + 1 + h ∧
      (∀ j, j < i + 1 → (fk j).Nodup ∧ ∀ q ∈ fk j, x.M q = none ∧ q ≠ x.pb) ∧ (∀ j k, j < i + 1 → k < i + 1 → j ≠ k → ∀ q ∈ fk j, q ∉ fk k)
theorem ent_nd {P : Pg} {n : NdR} (h1 : P.ks = n.ks) (h2 : P.vs = n.vs) (i : Nat) : ent P i = n.ent i := by unfold ent NdR.ent; rw [h1, h2]
/-- a leaf has no kid to make. -/
theorem Lp.half {x : Cx} {i : Nat} {P : Pg} {Mi : Nat → Option Pg} {acc : Vs} {X : World} (h : Lp x i P Mi acc X) (hl : x.n.kids.length = 0) : Half x i P Mi acc X :=
  ⟨h.th, h.fr, h.ext, h.at_, h.new, h.ks, h.vs, h.bd, h.seen, h.zero, h.uns, h.cnt, h.wrong, h.nbk, h.low, h.leaf, fun hn => absurd hl hn⟩
/-- behind the last kid there is no key. -/
theorem Half.last {x : Cx} {P : Pg} {Mi : Nat → Option Pg} {acc : Vs} {X : World} (h : Half x x.n.ks.length P Mi acc X) : Lp x (x.n.ks.length + 1) P Mi acc X := by
  refine ⟨h.th, h.fr, h.ext, h.at_, h.new, h.ks, h.vs, h.bd, h.seen, h.zero, h.uns, by have := h.cnt; omega, h.wrong, h.nbk, h.low, fun hl => ?_, fun hn => ?_⟩
  · have := h.leaf hl
    rw [Nat.min_self] at this
    rw [show min (x.n.ks.length + 1) x.n.ks.length = x.n.ks.length by omega]
    exact this
  · obtain ⟨h1, h2, hh, c, fk, h3, h4, h5, h6, h7⟩ := h.node hn
    refine ⟨h1, ?_, hh, c, fk, h3, ?_, fun _ => h5, h6, h7⟩
    · rw [if_neg (by omega), List.append_nil] at h2
      rw [h2]
      congr 1
      omega
    · rw [h4, ← h.ks, part_succ c P (Nat.le_refl _), if_neg (by omega), List.append_nil]
/-- the key is taken. -/
theorem Half.take {x : Cx} {i : Nat} {P : Pg} {Mi : Nat → Option Pg} {acc : Vs} {X X' : World} (h : Half x i P Mi acc X) (hi : i < x.n.ks.length) (hbd : BdAt X' x.b x.sb x.d x.lv (((x.S.takes acc.es).with_ acc.seen acc.leaves).take (x.n.ks.getD i k0))) (hT : Touch X X' [x.b])
    (hb : x.b < x.B) (hb0 : x.w0.heap.size ≤ x.b) (hnb : x.nb ≠ x.b) :
    BdAt X' x.b x.sb x.d x.lv ((x.S.takes (acc.es ++ [x.n.ent i])).with_ acc.seen acc.leaves) ∧ ((x.S.takes (acc.es ++ [x.n.ent i])).wrong = false → Lp x (i + 1) P Mi ⟨acc.seen, acc.leaves, acc.es ++ [x.n.ent i]⟩ X') := by
  have e : ((x.S.takes acc.es).with_ acc.seen acc.leaves).take (x.n.ks.getD i k0) = (x.S.takes (acc.es ++ [x.n.ent i])).with_ acc.seen acc.leaves := by
    rw [BdS.takes_app]
    rfl
  rw [e] at hbd
  have hT2 : Touch X X' [x.b, x.sb] := hT.mono (fun q hq => by simp only [List.mem_singleton] at hq; simp [hq])
  refine ⟨hbd, fun hw => ⟨h.th.far hT (fun q hq => by rw [List.mem_singleton.1 hq]; exact hb), h.fr.trans (Fr.of_touch hT2), h.ext, h.at_, h.new, h.ks, h.vs, hbd, h.seen, h.zero, h.uns, ?_, hw, h.nbk.touch hT (by rw [List.mem_singleton]; exact hnb), hT.below h.low h.low.size (fun q hq => by rw [List.mem_singleton.1 hq]; exact hb0), fun hl => ?_, fun hn => ?_⟩⟩
  · have := h.cnt
    simp only [List.length_append, List.length_cons, List.length_nil]
    omega
  · obtain ⟨h1, h2, h3, h4⟩ := h.leaf hl
    refine ⟨h1, h2, h3, ?_⟩
    simp only
    rw [h4, show min i x.n.ks.length = i by omega, show min (i + 1) x.n.ks.length = i + 1 by omega, NdR.ents_succ]
  · obtain ⟨h1, h2, hh, c, fk, h3, h4, h5, h6, h7⟩ := h.node hn
    rw [if_pos hi] at h2
    refine ⟨h1, ?_, hh, c, fk, h3, ?_, fun _ => h5, h6, h7⟩
    · rw [h2]
      congr 1
      omega
    · simp only
      rw [h4, part_succ c P (by rw [h.ks]; omega), if_pos (by rw [h.ks]; exact hi), ent_nd h.ks h.vs]
      simp [List.append_assoc]
end Go.Proofs.Ytmmikolcipcldaa
