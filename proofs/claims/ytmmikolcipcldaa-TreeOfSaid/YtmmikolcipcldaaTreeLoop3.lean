/-
  What is proved here: nothing of the program: what the builder's page leaves; what its loop makes of a kid's page, and comes to (chapter 15). Conditions: each theorem's own.
-/
import Derived.Test.YtmmikolcipcldaaTreeLoop2
namespace Go.Proofs.Ytmmikolcipcldaa
open Go.RowKit Go.Deep

/-- what the builder's page leaves. -/
def PgOut (B : Nat) (M : Nat → Option Pg) (b sb d : Nat) (lv : Value) (nds : List NdR) (f : Nat) (at_ : Int) (deep : Nat) (S : BdS) (W : World) (e : Ending) (w' : World) : Prop :=
  (∃ res S', e = .returned (.pointer res) ∧ S'.wrong = true ∧ BdAt w' b sb d lv S' ∧ S'.seen.length = nds.length ∧ S'.count + 31 * unseen S'.seen ≤ S.count + 31 * unseen S.seen ∧ TH B w' M ∧ Fr [b, sb] M W M w' ∧ ∀ r, vis nds d f at_ deep S.seen S.leaves = some r → (S.takes r.es).wrong = true) ∨
  (∃ r p M' h fs, e = .returned (.pointer (some ⟨p, 0, none⟩)) ∧ vis nds d f at_ deep S.seen S.leaves = some r ∧ (S.takes r.es).wrong = false ∧ BdAt w' b sb d lv ((S.takes r.es).with_ r.seen r.leaves) ∧ r.seen.length = nds.length ∧ TH B w' M' ∧ Fr [b, sb] M W M' w' ∧ (∀ x, M x ≠ none → M' x = M x) ∧
    Tr d M' h (if at_ = 0 then 1 else d - 1) p r.es fs ∧ fs.Nodup ∧ (∀ x ∈ fs, M x = none) ∧ r.leaves = deep + h)
theorem TH.sub {B : Nat} {W : World} {M M' : Nat → Option Pg} (h : TH B W M') (hs : ∀ x, M x ≠ Option.none → M' x = M x) : TH B W M := by
  have e : ∀ {x P}, M x = some P → M' x = some P := fun {x P} hx => (hs x (by rw [hx]; simp)).trans hx
  exact ⟨fun hx => h.page (e hx), fun hx => h.low (e hx), fun hx hy => h.sepk (e hx) (e hy), fun hx hy => h.sepv (e hx) (e hy), fun hx hy => h.sepc (e hx) (e hy)⟩
/-- what the builder's page starts from. -/
structure PgIn (w0 : World) (B : Nat) (M : Nat → Option Pg) (b sb d : Nat) (lv : Value) (nds : List NdR) (S : BdS) (W : World) : Prop where
  th : TH B W M
  size : B ≤ W.heap.size
  bd : BdAt W b sb d lv S
  seen : S.seen.length = nds.length
  wrong : S.wrong = false
  low : Below w0.heap.size w0 W
  b1 : w0.heap.size ≤ b
  b2 : w0.heap.size ≤ sb
  b3 : b < B
  b4 : sb < B
  count : S.count + 32 * unseen S.seen ≤ 100000000

/-- what was seen stays seen. -/
theorem set_keep {s : List Bool} {a i : Nat} (h : s.getD i true = true) : (s.set a true).getD i true = true := by
  rw [List.getD_eq_getElem?_getD, List.getElem?_set]
  by_cases e : a = i
  · subst e
    rw [if_pos rfl]
    split <;> rfl
  · rw [if_neg e, ← List.getD_eq_getElem?_getD]
    exact h
theorem set_now {s : List Bool} {a : Nat} : (s.set a true).getD a true = true := by
  rw [List.getD_eq_getElem?_getD, List.getElem?_set, if_pos rfl]
  split <;> rfl
theorem visL_mono {n : NdR} {g : Int → List Bool → Nat → Option Vs} {j : Nat} (hg : ∀ k s lv r, g k s lv = some r → s.getD j true = true → r.seen.getD j true = true) : ∀ (m i : Nat) (s r : Vs), visL n g m i s = some r → s.seen.getD j true = true → r.seen.getD j true = true
  | 0, i, s, r, h, hs => by
    simp only [visL, Option.some.injEq] at h
    subst h
    exact hs
  | m + 1, i, s, r, h, hs => by
    unfold visL at h
    split at h
    · cases h
    · rename_i q hq
      exact visL_mono hg m (i + 1) _ r h (show q.seen.getD j true = true from hg _ _ _ _ hq hs)
theorem vis_mono {l : List NdR} {d j : Nat} : ∀ (f : Nat) (at_ : Int) (deep : Nat) (seen : List Bool) (leaves : Nat) (r : Vs), vis l d f at_ deep seen leaves = some r → seen.getD j true = true → r.seen.getD j true = true
  | 0, _, _, _, _, _, h, _ => by cases h
  | f + 1, at_, deep, seen, leaves, r, h, hs => by
    rw [vis] at h
    split at h
    · cases h
    · split at h
      · cases h
      · split at h
        · split at h
          · split at h
            · cases h
              exact set_keep hs
            · cases h
          · exact visL_mono (fun k s lv r hr hsl => vis_mono f k (deep + 1) s lv r hr hsl) _ _ _ _ h (set_keep hs)
        · cases h

section
variable {w0 w W W' : World} {L : List Nat} {M M' : Nat → Option Pg} {B pb : Nat} {P : Pg}
theorem Fr.low (h : Fr L M W M' W') (hl : Below w0.heap.size w0 W) (th : TH B W M) (hB : w0.heap.size ≤ B) (hL : ∀ x ∈ L, w0.heap.size ≤ x) : Below w0.heap.size w0 W' :=
  ⟨h.os.trans hl.os, h.tape.trans hl.tape, h.output.trans hl.output, Nat.le_trans hl.size h.size, fun k hk => (h.free k (Nat.lt_of_lt_of_le hk hl.size) (fun hm => by have := hL k hm; omega) (th.free_low (by omega))).2.trans (hl.block k hk)⟩
/-- a page that is none of the map's is written. -/
theorem TH.drop (h : TH B W M') (hp : M' pb = some P) (hs : ∀ x, M x ≠ Option.none → M' x = M x) (hn : M pb = Option.none) (k : Touch W W' (pb :: P.blocks)) : TH B W' M := by
  have h' := h.sub hs
  refine ⟨fun {x Q} hx => ?_, h'.low, h'.sepk, h'.sepv, h'.sepc⟩
  have e : M' x = some Q := (hs x (by rw [hx]; simp)).trans hx
  have hne : x ≠ pb := fun e2 => by rw [e2, hn] at hx; cases hx
  obtain ⟨a1, a2, a3, a4⟩ := h.apart hp e hne
  exact (h'.page hx).touch k a1 a2 a3 a4
theorem Fr.drop (h : Fr L M w M' W) (hp : M' pb = some P) (k : Touch W W' (pb :: P.blocks)) : Fr L M w M W' :=
  ⟨k.os.trans h.os, k.tape.trans h.tape, k.output.trans h.output, Nat.le_trans h.size k.size, fun i hi hL hO => by
    obtain ⟨h1, h2⟩ := h.free i hi hL hO
    exact ⟨hO, (k.block i (Nat.lt_of_lt_of_le hi h.size) (fun hm => h1 ⟨_, _, hp, hm⟩)).trans h2⟩⟩
end

/-- what a page's making may go by. -/
structure Cx.Ok (x : Cx) : Prop where
  b1 : x.w0.heap.size ≤ x.b
  b2 : x.w0.heap.size ≤ x.sb
  b3 : x.b < x.B
  b4 : x.sb < x.B
  size : x.B ≤ x.W.heap.size
/-- what the whole page leaves, where it leaves anything. -/
def Cx.all (x : Cx) : Option Vs := if x.n.kids.length = 0 then some ⟨x.sn, x.deep, x.n.ents x.n.ks.length⟩ else visL x.n x.g (x.n.ks.length + 1) 0 ⟨x.sn, x.S.leaves, []⟩
/-- the loop once something was wrong. -/
structure Bad (x : Cx) (i : Nat) (S : BdS) (X : World) : Prop where
  wrong : S.wrong = true
  bd : BdAt X x.b x.sb x.d x.lv S
  seen : S.seen.length = x.nds.length
  cnt : S.count + 31 * unseen S.seen ≤ x.S.count + 31 * unseen x.sn + min i x.n.ks.length
  th : TH x.B X x.M
  fr : Fr [x.b, x.sb] x.M x.W x.M X
  nbk : Blk X x.nb 60 #[x.kv, x.vv, x.cv]
  low : Below x.w0.heap.size x.w0 X
  no : ∀ r, x.all = some r → (x.S.takes r.es).wrong = true
section
variable {x : Cx} {i : Nat} {P : Pg} {Mi : Nat → Option Pg} {acc : Vs} {X X' : World}
theorem Bad.up {S : BdS} (h : Bad x i S X) : Bad x (i + 1) S X := ⟨h.wrong, h.bd, h.seen, Nat.le_trans h.cnt (by omega), h.th, h.fr, h.nbk, h.low, h.no⟩
theorem Bad.take {S : BdS} (h : Bad x i S X) (hi : i < x.n.ks.length) {k : Ky} (hbd : BdAt X' x.b x.sb x.d x.lv (S.take k)) (hT : Touch X X' [x.b]) (ok : x.Ok) (hnb : x.nb ≠ x.b) : Bad x (i + 1) (S.take k) X' := by
  have hT2 : Touch X X' [x.b, x.sb] := hT.mono (fun q hq => by simp only [List.mem_singleton] at hq; simp [hq])
  refine ⟨by show (S.wrong || _) = true; rw [h.wrong]; rfl, hbd, h.seen, ?_, h.th.far hT (fun q hq => by rw [List.mem_singleton.1 hq]; exact ok.b3), h.fr.trans (Fr.of_touch hT2), h.nbk.touch hT (by rw [List.mem_singleton]; exact hnb), hT.below h.low h.low.size (fun q hq => by rw [List.mem_singleton.1 hq]; exact ok.b1), h.no⟩
  have := h.cnt
  show S.count + 1 + 31 * unseen S.seen ≤ _
  omega
theorem NdR.ents_more (n : NdR) : ∀ (k i : Nat), ∃ t, n.ents (i + k) = n.ents i ++ t
  | 0, i => ⟨[], by simp⟩
  | k + 1, i => by
    obtain ⟨t, ht⟩ := NdR.ents_more n k i
    exact ⟨t ++ [n.ent (i + k)], by rw [show i + (k + 1) = i + k + 1 by omega, NdR.ents_succ, ht, List.append_assoc]⟩
/-- a key that is not in its order. -/
theorem Half.bad (h : Half x i P Mi acc X) (hi : i < x.n.ks.length) (hbd : BdAt X' x.b x.sb x.d x.lv (((x.S.takes acc.es).with_ acc.seen acc.leaves).take (x.n.ks.getD i k0))) (hw : (x.S.takes (acc.es ++ [x.n.ent i])).wrong = true) (hT : Touch X X' [x.b]) (ok : x.Ok) (hnb : x.nb ≠ x.b) :
    Bad x (i + 1) (((x.S.takes acc.es).with_ acc.seen acc.leaves).take (x.n.ks.getD i k0)) X' := by
  have e : ((x.S.takes acc.es).with_ acc.seen acc.leaves).take (x.n.ks.getD i k0) = (x.S.takes (acc.es ++ [x.n.ent i])).with_ acc.seen acc.leaves := by
    rw [BdS.takes_app]
    rfl
  have hT2 : Touch X X' [x.b, x.sb] := hT.mono (fun q hq => by simp only [List.mem_singleton] at hq; simp [hq])
  have hth := h.th.far hT (fun q hq => by rw [List.mem_singleton.1 hq]; exact ok.b3)
  refine ⟨by rw [e]; exact hw, hbd, h.seen, ?_, hth.sub h.ext, (h.fr.trans (Fr.of_touch hT2)).drop h.at_ (Touch.refl _ _), h.nbk.touch hT (by rw [List.mem_singleton]; exact hnb), hT.below h.low h.low.size (fun q hq => by rw [List.mem_singleton.1 hq]; exact ok.b1), fun r hr => ?_⟩
  · have := h.cnt
    rw [e]
    show (x.S.takes (acc.es ++ [x.n.ent i])).count + 31 * unseen acc.seen ≤ _
    rw [(BdS.takes_same _ _).2.2]
    simp only [List.length_append, List.length_cons, List.length_nil]
    omega
  · unfold Cx.all at hr
    by_cases hk : x.n.kids.length = 0
    · rw [if_pos hk] at hr
      cases hr
      obtain ⟨_, _, _, h4⟩ := h.leaf hk
      obtain ⟨t, ht⟩ := x.n.ents_more (x.n.ks.length - (i + 1)) (i + 1)
      rw [show i + 1 + (x.n.ks.length - (i + 1)) = x.n.ks.length by omega] at ht
      refine BdS.takes_pre (t := t) hw ?_
      show x.n.ents x.n.ks.length = _
      rw [ht, h4, show min i x.n.ks.length = i by omega, NdR.ents_succ]
    · rw [if_neg hk] at hr
      obtain ⟨_, h2, _⟩ := h.node hk
      rw [h2, if_pos hi] at hr
      obtain ⟨t, ht⟩ := visL_pre _ _ _ _ hr
      exact BdS.takes_pre hw ht
/-- a kid's page was made. -/
theorem Lp.kid (hd : x.d ≤ 16) (h : Lp x i P Mi acc X) (hk : x.n.kids.length ≠ 0) (hi : i ≤ x.n.ks.length) (ok : x.Ok) {res : Option Addr} (hr : PgOut x.B Mi x.b x.sb x.d x.lv x.nds x.f (x.n.kids.getD i 0) (x.deep + 1) ((x.S.takes acc.es).with_ acc.seen acc.leaves) X (.returned (.pointer res)) X') {gx cx : Nat} {w2 : World}
    (hT : Touch X' w2 (x.pb :: P.blocks)) (hP : ∀ p, res = some ⟨p, 0, none⟩ → PageAt w2 x.pb { P with kids := P.kids ++ [p], gc := gx, cc := cx }) (hH : Held X' P.gc P.cc gx cx) : (∃ P' M' acc', Half x i P' M' acc' w2) ∨ ∃ S, Bad x i S w2 := by
  have hB : x.B ≤ X.heap.size := Nat.le_trans ok.size h.fr.size
  have hbl : ∀ y ∈ x.pb :: P.blocks, x.B ≤ y := h.th.blocks_low h.at_
  have nb1 : x.b ∉ x.pb :: P.blocks := fun hm => by have := hbl _ hm; have := ok.b3; omega
  have nb2 : x.sb ∉ x.pb :: P.blocks := fun hm => by have := hbl _ hm; have := ok.b4; omega
  have nbL : x.nb ∉ [x.b, x.sb] := fun hm => by
    simp only [List.mem_cons, List.not_mem_nil, or_false] at hm
    have hn := h.nbk
    rcases hm with e | e <;> rw [e] at hn
    · exact absurd (blk_type hn h.bd.blk) (by decide)
    · exact absurd (blk_type hn h.bd.row) (by decide)
  have nbO : ¬ Own Mi x.nb := h.th.free_type h.nbk (by decide)
  have hwB : x.w0.heap.size ≤ x.B := by have := ok.b1; have := ok.b3; omega
  have hLw : ∀ y ∈ [x.b, x.sb], x.w0.heap.size ≤ y := fun y hy => by
    simp only [List.mem_cons, List.not_mem_nil, or_false] at hy
    rcases hy with rfl | rfl
    · exact ok.b1
    · exact ok.b2
  obtain ⟨hn1, hn2, h0, c, fk, hn3, hn4, hn5, hn6, hn7⟩ := h.node hk
  have hnbP : x.nb ∉ x.pb :: P.blocks := fun hm => nbO ⟨_, _, h.at_, hm⟩
  have hstep : visL x.n x.g (x.n.ks.length + 1 - i) i acc = match x.g (x.n.kids.getD i 0) acc.seen acc.leaves with
      | none => none
      | some r => visL x.n x.g (x.n.ks.length - i) (i + 1) ⟨r.seen, r.leaves, acc.es ++ (r.es ++ (if i < x.n.ks.length then [x.n.ent i] else []))⟩ := by
    rw [show x.n.ks.length + 1 - i = (x.n.ks.length - i) + 1 by omega, visL]
    cases x.g (x.n.kids.getD i 0) acc.seen acc.leaves <;> rfl
  rcases hr with ⟨res', S', he, hw, hbd, hsl, hc, hth, hfr, hno⟩ | ⟨r, p, M', hh, fs, he, hvis, hw, hbd, hsl, hth, hfr, hext, hTr, hnd, hfsn, hlv⟩
  · refine .inr ⟨S', hw, hbd.touch hT nb1 nb2, hsl, ?_, hth.drop h.at_ h.ext h.new hT, (h.fr.trans hfr).drop h.at_ hT, (hfr.blk h.nbk nbL nbO).touch hT hnbP, ?_, fun q hq => ?_⟩
    · have := h.cnt
      have e : ((x.S.takes acc.es).with_ acc.seen acc.leaves).count = x.S.count + acc.es.length := (BdS.takes_same _ _).2.2
      have e2 : ((x.S.takes acc.es).with_ acc.seen acc.leaves).seen = acc.seen := rfl
      rw [e, e2] at hc
      omega
    · exact hT.below (hfr.low h.low h.th hwB hLw) (Nat.le_trans h.low.size hfr.size) (fun y hy => Nat.le_trans hwB (hbl y hy))
    · unfold Cx.all at hq
      rw [if_neg hk, hn2, hstep] at hq
      cases hg : x.g (x.n.kids.getD i 0) acc.seen acc.leaves with
      | none => rw [hg] at hq; cases hq
      | some u =>
        rw [hg] at hq
        obtain ⟨t, ht⟩ := visL_pre _ _ _ _ hq
        have h1 := hno u hg
        rw [BdS.takes_with] at h1
        have h2 : (x.S.takes (acc.es ++ u.es)).wrong = true := by rw [BdS.takes_app]; exact h1
        refine BdS.takes_pre (t := (if i < x.n.ks.length then [x.n.ent i] else []) ++ t) h2 ?_
        rw [ht]
        simp [List.append_assoc]
  · cases he
    have hMp : M' x.pb = some P := (hext _ (by rw [h.at_]; simp)).trans h.at_
    have hk0 : x.n.kids.getD i 0 ≠ 0 := fun e0 => by
      cases hf : x.f with
      | zero => rw [hf] at hvis; cases hvis
      | succ f' =>
        rw [hf, e0, vis] at hvis
        split at hvis
        · cases hvis
        · rw [show ((x.S.takes acc.es).with_ acc.seen acc.leaves).seen = acc.seen from rfl, show (0 : Int).toNat = 0 from rfl, if_pos h.zero] at hvis
          cases hvis
    rw [if_neg hk0] at hTr
    have hPg := hP p rfl
    have hturn := hth.turn (Nat.le_trans hB hfr.size) hMp hT hPg (fun hc => .inl ⟨hc, rfl⟩) (fun hc => .inl ⟨hc, rfl⟩) hH
    have hgsome : x.g (x.n.kids.getD i 0) acc.seen acc.leaves = some r := hvis
    rw [hgsome] at hstep
    have hlen : P.kids.length = i := hn1
    have hvis' : vis x.nds x.d x.f (x.n.kids.getD i 0) (x.deep + 1) acc.seen acc.leaves = some r := hvis
    have hcnt2 := vis_seen _ _ _ _ _ _ hvis' h.seen
    have hzero : r.seen.getD 0 true = true := vis_mono _ _ _ _ _ _ hvis' h.zero
    have hfsP : ∀ y ∈ fs, y ≠ x.pb := fun y hy e => by
      have := hfsn y hy
      rw [e, h.at_] at this
      cases this
    have hfsX : ∀ y ∈ fs, x.M y = none := fun y hy => by
      cases e : x.M y with
      | none => rfl
      | some Q =>
        have h1 := h.ext y (by rw [e]; simp)
        rw [hfsn y hy, e] at h1
        cases h1
    have hfsM : ∀ y ∈ fs, x.M y = none ∧ y ≠ x.pb := fun y hy => ⟨hfsX y hy, hfsP y hy⟩
    have hlive : ∀ j, j < i → ∀ y ∈ fk j, Mi y ≠ none := fun j hj y hy => (hn3 j hj).live y hy
    have hold : ∀ j, j < i → Tr x.d (upd M' x.pb { P with kids := P.kids ++ [p], gc := gx, cc := cx }) h0 (x.d - 1) (P.kids.getD j 0) (c j) (fk j) := fun j hj => Tr.frame (hn3 j hj) (fun y hy => by
      rw [upd_other _ _ ((hn6 j hj).2 y hy).2]
      exact hext y (hlive j hj y hy))
    have hnew : Tr x.d (upd M' x.pb { P with kids := P.kids ++ [p], gc := gx, cc := cx }) hh (x.d - 1) p r.es fs := Tr.frame hTr (fun y hy => upd_other _ _ (hfsM y hy).2)
    have hhh : 0 < i → hh = h0 := fun hp => by
      have h1 := hn5 hp
      have h2 := vis_keep _ _ _ _ _ _ (by show 0 < acc.leaves; omega) hvis'
      have h3 : r.leaves = acc.leaves := h2
      omega
    have hap : ∀ t, x.S.takes (acc.es ++ t) = (x.S.takes acc.es).takes t := fun t => BdS.takes_app _ _ _
    refine .inl ⟨{ P with kids := P.kids ++ [p], gc := gx, cc := cx }, _, ⟨r.seen, r.leaves, acc.es ++ r.es⟩, hturn, (h.fr.trans hfr).trans (Fr.turn hMp hT (fun hc => .inl ⟨hc, rfl⟩) (fun hc => .inl ⟨hc, rfl⟩) hH), fun q hq => ?_, upd_same _ _ _, h.new, h.ks, h.vs, ?_, hsl, hzero, Nat.le_trans hcnt2.2 h.uns, ?_, ?_, (hfr.blk h.nbk nbL nbO).touch hT hnbP, hT.below (hfr.low h.low h.th hwB hLw) (Nat.le_trans h.low.size hfr.size) (fun y hy => Nat.le_trans hwB (hbl y hy)), fun hl => absurd hl hk, fun _ => ?_⟩
    · rw [upd_other _ _ (fun e => by rw [e] at hq; exact hq h.new), hext q (by rw [h.ext q hq]; exact hq), h.ext q hq]
    · rw [BdS.takes_with] at hbd
      have := hbd.touch hT nb1 nb2
      rw [← hap] at this
      exact this
    · have h1 := h.cnt
      have h2 := ok.size
      have h3 : r.es.length + 31 * unseen r.seen ≤ 31 * unseen acc.seen := vis_len hd _ _ _ _ _ _ hvis' h.seen
      simp only [List.length_append]
      omega
    · rw [BdS.takes_with] at hw
      rw [hap]
      exact hw
    · refine ⟨by simp only [List.length_append, hlen]; rfl, ?_, hh, fun j => if j < i then c j else r.es, fun j => if j < i then fk j else fs, fun j hj => ?_, ?_, ?_, fun j hj => ?_, fun j k hj hk hne y hy => ?_⟩
      · rw [hn2, hstep]
        simp [List.append_assoc]
      · by_cases hji : j < i
        · simp only [if_pos hji]
          rw [show (P.kids ++ [p]).getD j 0 = P.kids.getD j 0 by rw [List.getD_eq_getElem?_getD, List.getElem?_append_left (by omega), ← List.getD_eq_getElem?_getD], hhh (by omega)]
          exact hold j hji
        · obtain rfl : j = i := by omega
          simp only [if_neg hji]
          rw [show (P.kids ++ [p]).getD j 0 = p by rw [List.getD_eq_getElem?_getD, List.getElem?_append_right (by omega), hlen]; simp]
          exact hnew
      · simp only [if_neg (Nat.lt_irrefl i)]
        rw [hn4]
        congr 1
        have hik : i ≤ P.ks.length := by rw [h.ks]; exact hi
        unfold part
        rw [if_pos hik, if_pos hik]
        exact (flat_congr (fun j hj => ⟨rfl, if_pos hj⟩)).symm
      · exact hlv
      · by_cases hji : j < i
        · simp only [if_pos hji]
          exact hn6 j hji
        · simp only [if_neg hji]
          exact ⟨hnd, hfsM⟩
      · by_cases hji : j < i <;> by_cases hki : k < i
        · simp only [if_pos hji] at hy
          simp only [if_pos hki]
          exact hn7 j k hji hki hne y hy
        · simp only [if_pos hji] at hy
          simp only [if_neg hki]
          exact fun hm => hlive j hji y hy (hfsn y hm)
        · simp only [if_neg hji] at hy
          simp only [if_pos hki]
          exact fun hm => hlive k hki y hm (hfsn y hy)
        · omega
end
end Go.Proofs.Ytmmikolcipcldaa
