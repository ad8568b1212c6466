/-
  What is proved here: the start and the end of the loop of the builder's page; a kid is put behind a page's kids (chapter 15). Conditions: each theorem's own.
-/
import Derived.Test.YtmmikolcipcldaaTreeLoop3
import Derived.Test.YtmmikolcipcldaaTreeSplit
namespace Go.Proofs.Ytmmikolcipcldaa
open Go.RowKit Go.Deep

def appP (xs : Array Value) : Sem Value := Builtin.append_ #[80, 80] 80 xs
theorem appP_eq (xs : Array Value) : Builtin.append_ #[80, 80] 80 xs = appP xs := rfl

section
variable {x : Cx} {i : Nat} {P : Pg} {Mi : Nat → Option Pg} {acc : Vs} {X X' : World}
theorem Lp.start {R : Pg} {lvs : Nat} (th : TH x.B X (upd x.M x.pb R)) (fr : Fr [x.b, x.sb] x.M x.W (upd x.M x.pb R) X) (new : x.M x.pb = none) (ks : R.ks = x.n.ks) (vs : R.vs = x.n.vs) (kids : R.kids = []) (bd : BdAt X x.b x.sb x.d x.lv (x.S.with_ x.sn lvs)) (sn : x.sn.length = x.nds.length)
    (zero : x.sn.getD 0 true = true) (wrong : x.S.wrong = false) (nbk : Blk X x.nb 60 #[x.kv, x.vv, x.cv]) (low : Below x.w0.heap.size x.w0 X) (hl : lvs = if x.n.kids.length = 0 then x.deep else x.S.leaves) : Lp x 0 R (upd x.M x.pb R) ⟨x.sn, lvs, []⟩ X := by
  refine ⟨th, fr, fun q hq => upd_other _ _ (fun e => by rw [e] at hq; exact hq new), upd_same _ _ _, new, ks, vs, bd, sn, zero, Nat.le_refl _, by simp, wrong, nbk, low, fun hk => ⟨kids, rfl, by rw [hl, if_pos hk], by simp [NdR.ents]⟩, fun hk => ⟨by rw [kids]; rfl, by rw [hl, if_neg hk]; rfl, 0, fun _ => [], fun _ => [], fun j hj => absurd hj (by omega), ?_, fun h => absurd h (by omega), fun j hj => absurd hj (by omega), fun j k hj => absurd hj (by omega)⟩⟩
  unfold part
  rw [if_pos (Nat.zero_le _)]
  rfl
theorem NdR.ents_flat {n : NdR} {P : Pg} (h1 : P.ks = n.ks) (h2 : P.vs = n.vs) : ∀ i, flat (fun _ => []) P i = n.ents i
  | 0 => rfl
  | i + 1 => by rw [flat_succ, NdR.ents_succ, NdR.ents_flat h1 h2 i, ent_nd h1 h2]; rfl
theorem Lp.done {a : Int} (h : Lp x (x.n.ks.length + 1) P Mi acc X) (hall : vis x.nds x.d (x.f + 1) a x.deep x.S.seen x.S.leaves = x.all) (hlo : (if a = 0 then 1 else x.d - 1) ≤ x.n.ks.length) (hhi : x.n.ks.length ≤ 2 * x.d - 1) (hvs : x.n.vs.length = x.n.ks.length) :
    PgOut x.B x.M x.b x.sb x.d x.lv x.nds (x.f + 1) a x.deep x.S x.W (.returned (.pointer (some ⟨x.pb, 0, none⟩))) X := by
  by_cases hk : x.n.kids.length = 0
  · obtain ⟨h1, h2, h3, h4⟩ := h.leaf hk
    rw [show min (x.n.ks.length + 1) x.n.ks.length = x.n.ks.length by omega] at h4
    refine .inr ⟨acc, x.pb, Mi, 0, [x.pb], rfl, ?_, h.wrong, h.bd, h.seen, h.th, h.fr, h.ext, ⟨P, h.at_, by rw [h.ks, h.vs, hvs], by rw [h.ks]; exact hlo, by rw [h.ks]; exact hhi, h1, by rw [NdR.ents_flat h.ks h.vs, h.ks, h4], rfl⟩, by simp, fun y hy => by rw [List.mem_singleton.1 hy]; exact h.new, by rw [h3]; rfl⟩
    rw [hall]
    unfold Cx.all
    rw [if_pos hk, ← h2, ← h3, ← h4]
  · obtain ⟨h1, h2, hh, c, fk, h3, h4, h5, h6, h7⟩ := h.node hk
    refine .inr ⟨acc, x.pb, Mi, hh + 1, x.pb :: (List.range (P.ks.length + 1)).flatMap fk, rfl, ?_, h.wrong, h.bd, h.seen, h.th, h.fr, h.ext, ⟨P, c, fk, h.at_, by rw [h.ks, h.vs, hvs], by rw [h.ks]; exact hlo, by rw [h.ks]; exact hhi, by rw [h1, h.ks], fun j hj => h3 j (by rw [h.ks] at hj; omega), ?_, rfl⟩, ?_, fun y hy => ?_, ?_⟩
    · rw [hall]
      unfold Cx.all
      rw [if_neg hk, h2, show x.n.ks.length + 1 - (x.n.ks.length + 1) = 0 by omega]
      rfl
    · rw [h4]
      unfold part
      rw [if_neg (by rw [h.ks]; omega)]
    · rw [h.ks]
      exact apart_iff.2 ⟨fun j hj hm => ((h6 j hj).2 _ hm).2 rfl, fun j hj => (h6 j hj).1, fun j k hj hk' hne => h7 j k hj hk' hne⟩
    · rcases mem_fs.1 hy with rfl | ⟨j, hj, hy⟩
      · exact h.new
      · exact ((h6 j (by rw [h.ks] at hj; exact hj)).2 y hy).1
    · rw [h5 (by omega)]
      omega
theorem Bad.done {a : Int} {S : BdS} (h : Bad x i S X) (hall : vis x.nds x.d (x.f + 1) a x.deep x.S.seen x.S.leaves = x.all) (hs : unseen x.sn + 1 = unseen x.S.seen) (hk : x.n.ks.length ≤ 31) (res : Option Addr) :
    PgOut x.B x.M x.b x.sb x.d x.lv x.nds (x.f + 1) a x.deep x.S x.W (.returned (.pointer res)) X :=
  .inl ⟨res, S, rfl, h.wrong, h.bd, h.seen, by have := h.cnt; omega, h.th, h.fr, fun r hr => h.no r (by rw [← hall]; exact hr)⟩
end
section
variable {x : Cx} {i : Nat} {P : Pg} {Mi : Nat → Option Pg} {acc : Vs} {X X' : World}
theorem Lp.on (h : Lp x i P Mi acc X) (hb : Below X.heap.size X X') : Lp x i P Mi acc X' :=
  ⟨h.th.on hb, h.fr.trans (Fr.of_below hb), h.ext, h.at_, h.new, h.ks, h.vs, h.bd.below hb, h.seen, h.zero, h.uns, h.cnt, h.wrong, h.nbk.below hb h.nbk.lt, h.low.trans (hb.mono h.low.size), h.leaf, h.node⟩
/-- a kid's page may be made. -/
theorem Lp.pgin (h : Lp x i P Mi acc X) (ok : x.Ok) (hc : x.S.count + 32 * unseen x.S.seen ≤ 100000000) (hs : unseen x.sn + 1 = unseen x.S.seen) (hk : x.n.ks.length ≤ 31) :
    PgIn x.w0 x.B Mi x.b x.sb x.d x.lv x.nds ((x.S.takes acc.es).with_ acc.seen acc.leaves) X := by
  refine ⟨h.th, Nat.le_trans ok.size h.fr.size, h.bd, h.seen, h.wrong, h.low, ok.b1, ok.b2, ok.b3, ok.b4, ?_⟩
  have h1 := h.cnt
  have h2 := h.uns
  show (x.S.takes acc.es).count + 32 * unseen acc.seen ≤ _
  rw [(BdS.takes_same _ _).2.2]
  omega
end
/-- a kid's page leaves the page that is being made. -/
theorem PgOut.keep {w0 : World} {B : Nat} {M : Nat → Option Pg} {b sb d : Nat} {lv : Value} {nds : List NdR} {f : Nat} {at_ : Int} {deep : Nat} {S : BdS} {W w' : World} {e : Ending} {pb nb : Nat} {P : Pg} {cs : Array Value} (h : PgOut B M b sb d lv nds f at_ deep S W e w')
    (hin : PgIn w0 B M b sb d lv nds S W) (hp : M pb = some P) (hn : Blk W nb 60 cs) : ∃ res, e = .returned (.pointer res) ∧ PageAt w' pb P ∧ Blk w' nb 60 cs ∧ Below w0.heap.size w0 w' := by
  have nbL : nb ∉ [b, sb] := fun hm => by
    simp only [List.mem_cons, List.not_mem_nil, or_false] at hm
    rcases hm with e | e <;> rw [e] at hn
    · exact absurd (blk_type hn hin.bd.blk) (by decide)
    · exact absurd (blk_type hn hin.bd.row) (by decide)
  have hl := fun {M' : Nat → Option Pg} (hf : Fr [b, sb] M W M' w') => hf.low hin.low hin.th (Nat.le_of_lt (Nat.lt_of_le_of_lt hin.b1 hin.b3)) (fun y hy => by
    simp only [List.mem_cons, List.not_mem_nil, or_false] at hy
    rcases hy with rfl | rfl
    · exact hin.b1
    · exact hin.b2)
  rcases h with ⟨res, S', rfl, _, _, _, _, hth, hfr, _⟩ | ⟨r, p, M', hh, fs, rfl, _, _, _, _, hth, hfr, hext, _⟩
  · exact ⟨res, rfl, hth.page hp, hfr.blk hn nbL (hin.th.free_type hn (by decide)), hl hfr⟩
  · exact ⟨_, rfl, hth.page ((hext _ (by rw [hp]; simp)).trans hp), hfr.blk hn nbL (hin.th.free_type hn (by decide)), hl hfr⟩
/-- a pointer is put behind a page's kids. -/
structure AppOut (X : World) (pb : Nat) (P : Pg) (res : Option Addr) (g' c' : Nat) (w' : World) : Prop where
  run : (appP #[sl P.gc P.kids.length P.cc, .slice (some ⟨X.heap.size, 0, none⟩) 1 1]).run Try.prog (X.alloc (.cells #[.pointer res] 69)) = .ok (.slice (some ⟨g', 0, none⟩) (P.kids.length + 1) c') w'
  cell : w'.cell? ⟨pb, 2, none⟩ = some (sl P.gc P.kids.length P.cc)
  frozen : w'.frozen? ⟨pb, 2, none⟩ = false
  touch : Touch X (w'.setCell ⟨pb, 2, none⟩ (.slice (some ⟨g', 0, none⟩) (P.kids.length + 1) c')) (pb :: P.blocks)
  held : Held X P.gc P.cc g' c'
  page : ∀ p, res = some ⟨p, 0, none⟩ → PageAt (w'.setCell ⟨pb, 2, none⟩ (.slice (some ⟨g', 0, none⟩) (P.kids.length + 1) c')) pb { P with kids := P.kids ++ [p], gc := g', cc := c' }
theorem app_ptr {X : World} {pb : Nat} {P : Pg} (hP : PageAt X pb P) (hl : P.kids.length ≤ 1000) (res : Option Addr) : ∃ g' c' w', AppOut X pb P res g' c' w' := by
  obtain ⟨i0, hi0, hz0, hz1, hz2⟩ := info_parts infoP
  have hb0 : Below X.heap.size X (X.alloc (.cells #[.pointer res] 69)) := (Below.refl _ _).alloc (Nat.le_refl _) _
  obtain ⟨g', c', w1, sp, hrun, hc', hnc', hblk, hsz, hgrow, hsame⟩ := run_append_row (P := Try.prog) (X.alloc (.cells #[.pointer res] 69)) 80 80 69 i0 _ 1 8 Try.underlying80 hi0 hz0 hz1 hz2 rfl P.gc P.kids.length P.cc (pcells P.kids) (hP.kids.on hb0)
    ⟨X.heap.size, 0, none⟩ 1 1 (by omega) [.pointer res] rfl (World.news_of_block (cs := #[.pointer res]) (t := 69) (fr := (0, 0)) (heap_alloc_new X _)) (by simp [Value.oneCell']) (by unfold maxLen; omega) (by omega)
  have hgw : X.grownBy w1 (rowOf? P.gc P.cc) := grown_after hb0 hgrow
  have hsam : Held X P.gc P.cc g' c' := fun _ => by
    rcases hsame with h1 | h1
    · exact .inl h1
    · exact .inr (by rw [World.size_alloc] at h1; omega)
  have hpn : pb ∉ P.blocks := fun hm => by
    rw [Pg.mem_blocks] at hm
    rcases hm with ⟨hc, e⟩ | ⟨hc, e⟩ | ⟨hc, e⟩
    · exact hP.far.1 hc (by simp [e])
    · exact hP.far.2.1 hc (by simp [e])
    · exact hP.far.2.2 hc (by simp [e])
  have hT : Touch X w1 P.blocks := Touch.of_grown hgw _ (fun h => (Pg.mem_blocks _ _).2 (.inr (.inr ⟨h, rfl⟩)))
  have hb1 := hP.blk.touch hT hpn
  have hk1 := hP.keys.grown_far hP.kids (by decide) hgw
  have hv1 := hP.vals.grown_far hP.kids (by decide) hgw
  refine ⟨g', c', w1, hrun, hb1.cell 2, hb1.frozen 2, (hT.mono (fun y hy => List.mem_cons_of_mem _ hy)).trans (Touch.set _ ⟨pb, 2, none⟩ _ _ (by simp)), hsam, fun p hp => ?_⟩
  subst hp
  have hS := Touch.set w1 ⟨pb, 2, none⟩ (.slice (some ⟨g', 0, none⟩) (P.kids.length + 1) c') [pb] (by simp)
  have hrow : RowAt w1 g' 69 1 (P.kids ++ [p]).length c' (pcells (P.kids ++ [p])) := by
    refine row_new (sp := sp) (by simp [pcells]) (by simpa using hnc') ?_ ?_
    · simpa [pcells] using hsz
    · simpa [pcells] using hblk
  refine ⟨?_, hk1.touch hS (row_far hb1 hk1 (by decide)), hv1.touch hS (row_far hb1 hv1 (by decide)), hrow.touch hS (row_far hb1 hrow (by decide))⟩
  have := hb1.set_ 2 (.slice (some ⟨g', 0, none⟩) (P.kids.length + 1) c')
  rw [← sl_pos _ _ _ hc'] at this ⊢
  simp only [List.length_append, List.length_cons, List.length_nil]
  exact this
end Go.Proofs.Ytmmikolcipcldaa
