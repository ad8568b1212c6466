/-
  What is proved here: the value under a key (the tree's Get), a new tree, how many keys there are; the keys that the laws make. Conditions: each theorem's own.
-/
import Derived.Test.YtmmikolcipcldaaTreePut
namespace Go.Proofs.Ytmmikolcipcldaa
open Go.RowKit Go.Deep

/-- the value under a key. -/
def valE (k : Ky) (es : List En) : Int := ((es.find? (fun e => decide (e.1 = k))).map (·.2)).getD 0
theorem mid_find {k : Ky} {A B C : List En} (hA : ∀ e ∈ A, bel e.1 k = true) (hC : ∀ e ∈ C, bel k e.1 = true) : hasE k (A ++ (B ++ C)) = hasE k B ∧ valE k (A ++ (B ++ C)) = valE k B := by
  have hA' : ∀ e ∈ A, ¬ e.1 = k := fun e he hk => by have := hA e he; rw [hk, bel_irrefl] at this; cases this
  have hC' : ∀ e ∈ C, ¬ e.1 = k := fun e he => (above_not (hC e he)).2
  have fA : A.find? (fun e => decide (e.1 = k)) = none := List.find?_eq_none.2 (fun e he => by simp [hA' e he])
  have fC : C.find? (fun e => decide (e.1 = k)) = none := List.find?_eq_none.2 (fun e he => by simp [hC' e he])
  refine ⟨?_, ?_⟩
  · unfold hasE
    rw [List.any_append, List.any_append, show A.any (fun e => decide (e.1 = k)) = false from List.any_eq_false.2 (fun e he => by simp [hA' e he]), show C.any (fun e => decide (e.1 = k)) = false from List.any_eq_false.2 (fun e he => by simp [hC' e he]), Bool.false_or, Bool.or_false]
  · unfold valE
    rw [List.find?_append, fA, Option.none_or, List.find?_append, fC, Option.or_none]
theorem found_find {k : Ky} {u : Int} {A B : List En} (hA : ∀ e ∈ A, bel e.1 k = true) : valE k (A ++ (k, u) :: B) = u := by
  have hA' : ∀ e ∈ A, ¬ e.1 = k := fun e he hk => by have := hA e he; rw [hk, bel_irrefl] at this; cases this
  have fA : A.find? (fun e => decide (e.1 = k)) = none := List.find?_eq_none.2 (fun e he => by simp [hA' e he])
  unfold valE
  rw [List.find?_append, fA, Option.none_or, List.find?_cons_of_pos (by simp)]
  rfl

section
variable {d : Nat} {M : Nat → Option Pg} {h lo p : Nat} {es : List En} {fs : List Nat} {P : Pg} {c : Nat → List En} {f : Nat → List Nat} {k : Ky}
theorem Node.got (t : Node d M h lo p es fs P c f) (hu : Up es) (hh : hit P.ks k = true) : hasE k es = true ∧ valE k es = P.vs.getD (place P.ks k) 0 := by
  obtain ⟨hi, hk⟩ := hit_key hh
  have hb : ∀ e ∈ flat c P (place P.ks k) ++ c (place P.ks k), bel e.1 k = true := by
    intro e hm
    rcases List.mem_append.1 hm with hm | hm
    · exact flat_below hu t.es k _ (Nat.le_refl _) e hm
    · exact t.ahead hu hh e hm
  have hE : es = (flat c P (place P.ks k) ++ c (place P.ks k)) ++ (k, P.vs.getD (place P.ks k) 0) :: (c (place P.ks k + 1) ++ seg c P (place P.ks k + 1) P.ks.length) := by
    refine (t.partAt hi).trans ?_
    rw [show ent P (place P.ks k) = (k, P.vs.getD (place P.ks k) 0) by unfold ent; rw [hk]]
    simp only [List.append_assoc]
  rw [hE]
  exact ⟨hasE_found, found_find hb⟩
theorem Node.down (t : Node d M h lo p es fs P c f) (hu : Up es) (hh : hit P.ks k = false) : hasE k es = hasE k (c (place P.ks k)) ∧ valE k es = valE k (c (place P.ks k)) ∧ Up (c (place P.ks k)) := by
  have h1 := t.above hu hh
  have h2 := flat_below hu t.es k _ (Nat.le_refl _)
  have hE := t.part (place_le P.ks k)
  have h3 := mid_find (B := c (place P.ks k)) h2 h1
  rw [← hE] at h3
  refine ⟨h3.1, h3.2, ?_⟩
  rw [hE] at hu
  exact hu.right.left
end
/-- what Get has at the head of a round. -/
def GetAt (M : Nat → Option Pg) (d : Nat) (k : Ky) (es : List En) (p h : Nat) : Prop := ∃ lo es' fs, Tr d M h lo p es' fs ∧ Up es' ∧ hasE k es = hasE k es' ∧ valE k es = valE k es'
theorem GetAt.open_ {M : Nat → Option Pg} {d : Nat} {k : Ky} {es : List En} {p h : Nat} (g : GetAt M d k es p h) : ∃ Q, M p = some Q ∧ Q.ks.length ≤ 2 * d - 1 ∧ Q.vs.length = Q.ks.length ∧ (hit Q.ks k = true → hasE k es = true ∧ valE k es = Q.vs.getD (place Q.ks k) 0) ∧
    ((Q.kids.length = 0 ∧ (hit Q.ks k = false → hasE k es = false ∧ valE k es = 0)) ∨ ∃ h', h = h' + 1 ∧ Q.kids.length = Q.ks.length + 1 ∧ (hit Q.ks k = false → GetAt M d k es (Q.kids.getD (place Q.ks k) 0) h')) := by
  obtain ⟨lo, es', fs, t, hu, e1, e2⟩ := g
  obtain ⟨P, c, f, n⟩ := t.node
  refine ⟨P, n.at_, n.hi, n.vs, fun hh => by rw [e1, e2]; exact n.got hu hh, ?_⟩
  rcases n.kids with ⟨rfl, hk, hc⟩ | ⟨h', rfl, hk, hT⟩
  · refine .inl ⟨by rw [hk]; rfl, fun hh => ?_⟩
    have := n.down hu hh
    rw [e1, e2, this.1, this.2.1, (hc _).1]
    exact ⟨rfl, rfl⟩
  · refine .inr ⟨h', rfl, hk, fun hh => ?_⟩
    have := n.down hu hh
    exact ⟨_, _, _, hT _ (place_le _ _), this.2.2, e1.trans this.1, e2.trans this.2.1⟩

set_option maxRecDepth 100000 in
set_option maxHeartbeats 4000000 in
theorem get_any {B : Nat} {w : World} {M : Nat → Option Pg} {tr d : Nat} {es : List En} (k : Ky) (hd : d ≤ 16) (hT : Tree B w M tr d es) :
    Calls Try.prog 21 #[.pointer (some ⟨tr, 0, none⟩), .agg k.cells] w fun e w' => e = .returned (.tuple #[.int .i64 (valE k es), .bool (hasE k es)]) ∧ Below w.heap.size w w' := by
  obtain ⟨kt, kk⟩ := k
  obtain ⟨hth, hsz, hown, hup, root, hat, hroot⟩ := hT
  have hb1 : Below w.heap.size w (w.alloc (.cells #[.int .i64 kt, .int .i64 kk] 24)) := (Below.refl _ _).alloc (Nat.le_refl _) _
  have t1 : (w.alloc (.cells #[.int .i64 kt, .int .i64 kk] 24)).cell? ⟨tr, 1, none⟩ = _ := (Blk.below hat hb1 (Blk.lt hat)).cell 1
  have HM := Lib.hid (show ∀ W, Below w.heap.size w W → ∀ {p P}, M p = some P → PageAt W p P from fun W hb p P hp => (hth.page hp).on hb)
  have HKB := Lib.hid (Blk.new w 24 #[.int .i64 kt, .int .i64 kk])
  have HB1 := Lib.hid hb1
  have HR := Lib.hid (show (root = none ∧ es = []) ∨ ∃ p h, root = some p ∧ GetAt M d ⟨kt, kk⟩ es p h from by
    rcases hroot with h | ⟨p, H, FS, h1, h2, _⟩
    · exact .inl h
    · exact .inr ⟨p, H, h1, _, _, _, h2, hup, rfl, rfl⟩)
  clear hth hat hb1 hroot hup hsz hown
  show Calls Try.prog 21 #[.pointer (some ⟨tr, 0, none⟩), .agg #[.int .i64 kt, .int .i64 kk]] w _
  go_enter Try.func21, Try.ntmps21
  go_upto_region 1 with fail
  go_cut [6] (fun s wx => Below w.heap.size w wx ∧ Blk wx w.heap.size 24 #[.int .i64 kt, .int .i64 kk] ∧ ∃ n : Nat, (n = 0 ∧ s = .pointer none ∧ es = []) ∨ ∃ p h, n = h + 1 ∧ s = .pointer (some ⟨p, 0, none⟩) ∧ GetAt M d ⟨kt, kk⟩ es p h)
  case first =>
    go_wp2_with fail
    go_meet
    refine ⟨HB1.out, HKB.out, ?_⟩
    rcases HR.out with ⟨rfl, h⟩ | ⟨p, h, rfl, hQ⟩
    · exact ⟨0, .inl ⟨rfl, rfl, h⟩⟩
    · exact ⟨h + 1, .inr ⟨p, h, rfl, rfl, hQ⟩⟩
  clear t1 HKB HB1 HR
  obtain ⟨hbx, hkx, n, hs⟩ := hcut
  obtain ⟨wx, rfl⟩ : ∃ wq : World, wq = wc := ⟨_, rfl⟩
  have HX := Lib.hid (And.intro hbx (And.intro hkx hs))
  clear hbx hkx hs
  go_wp2_with fail
  go_loopg [6] n (fun g s wr => Below w.heap.size w wr ∧ Blk wr w.heap.size 24 #[.int .i64 kt, .int .i64 kk] ∧ ((g = 0 ∧ s = .pointer none ∧ es = []) ∨ ∃ p h, g = h + 1 ∧ s = .pointer (some ⟨p, 0, none⟩) ∧ GetAt M d ⟨kt, kk⟩ es p h))
  case atStart => exact HX.out
  case round =>
    clear HX
    obtain ⟨hbr, hkr, ⟨rfl, rfl, rfl⟩ | ⟨p, h, rfl, rfl, hG⟩⟩ := hrel
    · have HB := Lib.hid hbr
      clear hbr hkr
      go_wp2_with fail
      go_ret2
      exact ⟨rfl, HB.out⟩
    · obtain ⟨Q, hQ, hQh, hQv, hgot, hkids⟩ := hG.open_
      have hP := HM.out wr hbr hQ
      have HPL := Lib.hid (place_any p Q ⟨kt, kk⟩ wr hP (by omega))
      have b0 : wr.cell? ⟨w.heap.size, 0, none⟩ = some (.int .i64 kt) := hkr.cell 0
      have b1 : wr.cell? ⟨w.heap.size, 1, none⟩ = some (.int .i64 kk) := hkr.cell 1
      have HB := Lib.hid (And.intro hbr hkr)
      have HQ := Lib.hid (And.intro hQ hQv)
      have HG := Lib.hid (And.intro hgot hkids)
      clear hbr hkr hP hQ hQv hgot hkids hG
      go_upto_region 4 with (go_at_call 36; refine HPL.out.mono ?_; rintro e w1 ⟨rfl, hb1⟩)
      obtain ⟨wd, rfl⟩ : ∃ wq : World, wq = w1 := ⟨_, rfl⟩
      have hBd : Below w.heap.size w wd := HB.out.1.trans (hb1.mono HB.out.1.size)
      have hkd := HB.out.2.below hb1 HB.out.2.lt
      have hP := HM.out wd hBd HQ.out.1
      have HBD := Lib.hid (And.intro hBd hkd)
      clear HB HPL b0 b1 hb1 hBd hkd
      obtain ⟨i, hi⟩ : ∃ i, i = place Q.ks ⟨kt, kk⟩ := ⟨_, rfl⟩
      obtain ⟨b, hb⟩ : ∃ b, b = hit Q.ks ⟨kt, kk⟩ := ⟨_, rfl⟩
      rw [← hi, ← hb]
      have hin : i ≤ Q.ks.length := by rw [hi]; exact place_le _ _
      have hi0 : (0 : Int) ≤ (i : Int) := by omega
      have HI := Lib.hid hi
      have HHB := Lib.hid hb
      clear hi hb
      cases b
      · obtain ⟨A2, hA2, hA2p, _⟩ := sl_form Q.gc Q.kids.length Q.cc hP.kids.1
        have q2 : wd.cell? ⟨p, 2, none⟩ = some (.slice A2 Q.kids.length Q.cc) := by rw [hP.blk.cell 2]; exact congrArg some hA2
        rcases HG.out.2 with ⟨hkl, hno⟩ | ⟨h', rfl, hkl, hdown⟩
        · have hkd : ((Q.kids.length : Int) == 0) = true := by rw [hkl]; rfl
          have HNO := Lib.hid (hno HHB.out.symm)
          clear hkl hno hP hA2
          go_wp2_with fail
          go_ret2
          exact ⟨by rw [HNO.out.1, HNO.out.2]; rfl, HBD.out.1⟩
        · have hkd : ((Q.kids.length : Int) == 0) = false := by rw [hkl]; exact beq_eq_false_iff_ne.2 (by omega)
          have hcc : 0 < Q.cc := hP.kids.pos (by omega)
          obtain rfl := hA2p hcc
          obtain ⟨lp, hlp⟩ : ∃ lp, lp = Q.kids.getD i 0 := ⟨_, rfl⟩
          have k2 : wd.cell? ⟨Q.gc, i, none⟩ = some (.pointer (some ⟨lp, 0, none⟩)) := by rw [hlp]; exact hP.kid (by omega)
          have hil : (i : Int) < (Q.kids.length : Int) := by omega
          have HDN := Lib.hid (show GetAt M d ⟨kt, kk⟩ es lp h' from by rw [hlp, HI.out]; exact hdown HHB.out.symm)
          clear hkl hdown hP hA2 hlp
          go_wp2_with fail
          go_roundg (h' + 1)
          case measure => omega
          case rel => exact ⟨HBD.out.1, HBD.out.2, .inr ⟨lp, h', rfl, rfl, HDN.out⟩⟩
      · obtain ⟨hlt, _⟩ := hit_key HHB.out.symm
        rw [← HI.out] at hlt
        have hvl : i < Q.vs.length := by rw [HQ.out.2]; exact hlt
        have hcv : 0 < Q.cv := hP.vals.pos (by omega)
        have q1 : wd.cell? ⟨p, 1, none⟩ = some (.slice (some ⟨Q.gv, 0, none⟩) Q.vs.length Q.cv) := by rw [hP.blk.cell 1]; exact congrArg some (sl_pos _ _ _ hcv)
        have qv := hP.val hvl
        have hil : (i : Int) < (Q.vs.length : Int) := by omega
        obtain ⟨u, hu⟩ : ∃ u, u = Q.vs.getD i 0 := ⟨_, rfl⟩
        rw [← hu] at qv
        have HGO := Lib.hid (show hasE ⟨kt, kk⟩ es = true ∧ valE ⟨kt, kk⟩ es = u from by rw [hu, HI.out]; exact HG.out.1 HHB.out.symm)
        clear hP hlt hvl hu
        go_wp2_with fail
        go_ret2
        exact ⟨by rw [HGO.out.1, HGO.out.2]; rfl, HBD.out.1⟩
end Go.Proofs.Ytmmikolcipcldaa
