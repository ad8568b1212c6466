/-
  What is proved here: the law BandParts returns true for every band, all points and every place. Conditions: none.
-/
import Derived.Test.YtjidfcogcgaclaaBandFacts
import Derived.Test.YtjidfcogcgaclaaBandOpen
import Derived.Deep.RegionHeld3
import Derived.Deep.DeepCutAuto
import Derived.IntWalk
namespace Go.Proofs.Ytjidfcogcgaclaa
namespace BandParts
open Go.ChangeShapes Go.WideShapes Go.ChangeAt Go.RowKit Go.Deep
attribute [local go_sem high] eq_held ne_held eqh_self

def pickM (k n : Int) : Int := if n < 1 then 0 else k % n
theorem pick_down (k n : Int) (hn : 1 ≤ n) : -n < k.tmod n ∧ k.tmod n < n ∧ (k.tmod n < 0 → k.tmod n + n = k % n) ∧ (0 ≤ k.tmod n → k.tmod n = k % n) := by
  have e1 := Int.emod_nonneg k (show n ≠ 0 by omega)
  have e2 := Int.emod_lt_of_pos k (show 0 < n by omega)
  by_cases hk : 0 ≤ k
  · rw [Int.tmod_eq_emod_of_nonneg hk]
    exact ⟨by omega, by omega, by omega, fun _ => rfl⟩
  · have hm : k.tmod n = -((-k) % n) := by
      have : k = -(-k) := by omega
      conv => lhs; rw [this]
      rw [Int.neg_tmod, Int.tmod_eq_emod_of_nonneg (by omega)]
    have r1 := Int.emod_nonneg (-k) (show n ≠ 0 by omega)
    have r2 := Int.emod_lt_of_pos (-k) (show 0 < n by omega)
    have r3 := Int.mul_ediv_add_emod (-k) n
    have r4 : k % n = (-((-k) % n)) % n := by
      have : k = -((-k) % n) + n * (-((-k) / n)) := by rw [Int.mul_neg]; omega
      conv => lhs; rw [this]
      exact Int.add_mul_emod_self_left _ _ _
    rw [hm, r4]
    generalize (-k) % n = r at *
    refine ⟨by omega, by omega, fun h => ?_, fun h => ?_⟩
    · have : (-r) % n = (-r + n) % n := by simp
      rw [this, Int.emod_eq_of_lt (by omega) (by omega)]
    · have : r = 0 := by omega
      subst this
      simp
theorem pick_any (k n : Int) (w : World) (h3 : n ≤ 9223372036854775807) :
    Calls Try.prog 21 #[.int .i64 k, .int .i64 n] w fun e w' => e = .returned (.int .i64 (pickM k n)) ∧ w' = w := by
  by_cases hn : n < 1
  · go_enter Try.func21, Try.ntmps21
    go_wp2
    go_ret
    exact ⟨ret_int (by simp [pickM]; omega), rfl⟩
  · obtain ⟨p1, p2, p3, p4⟩ := pick_down k n (by omega)
    have H3 := Lib.hid p3
    have H4 := Lib.hid p4
    have hm : pickM k n = k % n := if_neg hn
    rw [hm]
    clear p3 p4 hm
    by_cases hneg : k.tmod n < 0
    · go_enter Try.func21, Try.ntmps21
      go_wp2
      go_ret
      exact ⟨ret_int (by first | exact H3.out hneg | (rw [IntWalk.wrap64_in _ (by omega)]; exact H3.out hneg)), rfl⟩
    · go_enter Try.func21, Try.ntmps21
      go_wp2
      go_ret
      exact ⟨ret_int (H4.out (by omega)), rfl⟩
/-- Pick out of the places of a list. -/
theorem pick_at (k : Int) (n : Nat) (w : World) (h : n ≤ 140737488351232) : ∃ m : Nat, m ≤ n ∧
    Calls Try.prog 21 #[.int .i64 k, .int .i64 ((n : Int) + 1)] w fun e w' => e = .returned (.int .i64 (m : Int)) ∧ w' = w := by
  have e1 := Int.emod_nonneg k (show (n : Int) + 1 ≠ 0 by omega)
  have e2 := Int.emod_lt_of_pos k (show 0 < (n : Int) + 1 by omega)
  refine ⟨(k % ((n : Int) + 1)).toNat, by omega, (pick_any k ((n : Int) + 1) w (by omega)).mono ?_⟩
  rintro e w' ⟨rfl, rfl⟩
  refine ⟨ret_int ?_, rfl⟩
  unfold pickM
  rw [if_neg (by omega), Int.toNat_of_nonneg e1]

theorem own_ne_type {Good : Value → Prop} {w : World} {base : Nat} {e t : TypeId} {size n g : Nat} {v : Value} {xs : List Value} {cs : Array Value} (h : OwnG Good w base e size v n xs) (hb : Blk w g t cs) (hne : t ≠ e) : some g ≠ v.ownBlock := by
  intro hv
  rcases h.1.2 with ⟨rfl, _⟩ | ⟨g0, cap, cur, rfl, _, hh, _⟩
  · cases hv
  · have : g = g0 := by injection hv
    subst this
    unfold Blk at hb
    rw [hh] at hb
    injection hb with hb
    injection hb with _ hb
    exact hne hb.symm
theorem PointsAt.take {w : World} {A : Option Addr} {L : List Point} (h : PointsAt w A L) (n : Nat) : PointsAt w A (L.take n) := by
  intro hp
  rw [List.length_take] at hp
  obtain ⟨b, off, e, hlt, hc⟩ := h (by omega)
  refine ⟨b, off, e, hlt, fun i hi => ?_⟩
  rw [List.length_take] at hi
  rw [getD_take L n i (by omega)]
  exact hc i (by omega)

/-- what the walk holds on to. -/
def Hold (w : World) (b : Band) (O : List Point) (v : Value) (wr : World) : Prop :=
  OwnG IsInt wr w.heap.size 27 2 v O.length (O.flatMap pcells) ∧ Blk wr w.heap.size 23 #[.int .i64 b.dead, .int .i64 b.quiet] ∧ Below w.heap.size w wr
theorem Hold.below {w wr w' : World} {b : Band} {O : List Point} {v : Value} (h : Hold w b O v wr) (hb : Below wr.heap.size wr w') : Hold w b O v w' :=
  ⟨h.1.below hb, h.2.1.below hb h.2.1.lt, h.2.2.trans (hb.mono h.2.2.size)⟩
theorem Hold.far {w wr : World} {b : Band} {O : List Point} {v : Value} {g o : Nat} {t : TypeId} {cs : Array Value} (h : Hold w b O v wr) (hg : Blk wr g t cs) (hne : t ≠ 27) (hw : w.heap.size < g) (u : Value) : Hold w b O v (wr.setCell ⟨g, o, none⟩ u) := by
  have hn := own_ne_type h.1 hg hne
  have hgr : wr.grownBy (wr.setCell ⟨g, o, none⟩ u) (some g) := only_set (only_refl _ _) _ _
  refine ⟨⟨h.1.1.kept hgr (.inr (fun e => hn e.symm)), fun g' c cur hv hg' => ?_⟩, Blk.far (p := ⟨g, o, none⟩) h.2.1 (by show w.heap.size ≠ g; omega) u, h.2.2.setCell (p := ⟨g, o, none⟩) (by show w.heap.size ≤ g; omega) u⟩
  have hne' : g' ≠ g := fun e => hn (by rw [hv, e]; rfl)
  rw [Below.heap_setCell wr ⟨g, o, none⟩ u g' hne'] at hg'
  exact h.1.2 g' c cur hv hg'
theorem Hold.push {w wr w' : World} {b : Band} {O : List Point} {v v' : Value} {x : Point} (h : Hold w b O v wr) (ho : OwnG IsInt w' w.heap.size 27 2 v' (O.length + 1) (O.flatMap pcells ++ pcells x)) (hg : wr.grownBy w' v.ownBlock) : Hold w b (O ++ [x]) v' w' := by
  refine ⟨?_, h.2.1.grown hg (own_ne_type h.1 h.2.1 (by decide)), h.2.2.grown hg h.2.2.size (fun q hq => (h.1.1.lt q hq).1)⟩
  rw [List.length_append, List.flatMap_append]; simpa [pcells] using ho

theorem keep7 {wz w' : World} {B hBn bb off : Nat} {a0 a1 b0 b1 b2 x0 x1 : Value} (hb : Below wz.heap.size wz w')
    (e0 : wz.cell? ⟨B, 0, none⟩ = some a0) (e1 : wz.cell? ⟨B, 1, none⟩ = some a1) (f0 : wz.cell? ⟨hBn, 0, none⟩ = some b0) (f1 : wz.cell? ⟨hBn, 1, none⟩ = some b1) (f2 : wz.cell? ⟨hBn, 2, none⟩ = some b2)
    (h0 : wz.cell? ⟨bb, off, none⟩ = some x0) (h1 : wz.cell? ⟨bb, off + 1, none⟩ = some x1) (l1 : B < wz.heap.size) (l2 : hBn < wz.heap.size) (l3 : bb < wz.heap.size) :
    w'.cell? ⟨B, 0, none⟩ = some a0 ∧ w'.cell? ⟨B, 1, none⟩ = some a1 ∧ w'.cell? ⟨hBn, 0, none⟩ = some b0 ∧ w'.cell? ⟨hBn, 1, none⟩ = some b1 ∧ w'.cell? ⟨hBn, 2, none⟩ = some b2 ∧
      w'.cell? ⟨bb, off, none⟩ = some x0 ∧ w'.cell? ⟨bb, off + 1, none⟩ = some x1 ∧ wz.heap.size ≤ w'.heap.size ∧ Below wz.heap.size wz w' :=
  ⟨(hb.cell (p := ⟨B, 0, none⟩) l1).trans e0, (hb.cell (p := ⟨B, 1, none⟩) l1).trans e1, (hb.cell (p := ⟨hBn, 0, none⟩) l2).trans f0, (hb.cell (p := ⟨hBn, 1, none⟩) l2).trans f1, (hb.cell (p := ⟨hBn, 2, none⟩) l2).trans f2,
    (hb.cell (p := ⟨bb, off, none⟩) l3).trans h0, (hb.cell (p := ⟨bb, off + 1, none⟩) l3).trans h1, hb.size, hb⟩

theorem long_ (A : Option Addr) (cap : Nat) (b : Band) (n : Nat) (cut : Int) (w : World) (hbig : 16384 < n) :
    Calls Try.prog 7 #[.agg #[.int .i64 b.dead, .int .i64 b.quiet], .slice A n cap, .int .i64 cut] w fun e w' => e = .returned (.bool true) ∧ Below w.heap.size w w' := by
  have hb : (16384 : Int) < (n : Int) := by omega
  go_enter Try.func7, Try.ntmps7
  go_wp2_with fail
  refine (known_any _).mono ?_
  rintro e w1 ⟨rfl, hb1⟩
  have hw1 := hb1.size; try simp only [World.size_alloc] at hw1
  go_wp2
  go_ret
  exact ⟨rfl, by (repeat (first | (with_reducible assumption) | (with_reducible exact Below.refl _ _) | ((with_reducible refine Below.setCell ?_ ?_ _); rotate_left; · (first | omega | (simp; done) | (simp; omega) | (simp at *; omega))) | ((with_reducible refine Below.alloc ?_ ?_ _); rotate_left; · (first | omega | (simp; done) | (simp; omega) | (simp at *; omega))) | (with_reducible refine Below.drew ?_) | (with_reducible refine below_drewN ?_ _) | ((refine Below.trans ?_ (Below.mono (by with_reducible assumption) ?_)); rotate_left; · (first | omega | (simp; done) | (simp; omega) | (simp at *; omega)))))⟩

set_option maxRecDepth 100000 in
set_option maxHeartbeats 4000000 in
theorem walk (A : Option Addr) (cap : Nat) (b : Band) (L : List Point) (cut : Int) (w : World) (hA : PointsAt w A L) (hcap : L.length ≤ cap) (hlen : L.length * 16 ≤ 140737488351232)
    (hL : ∀ i, i < L.length → I64 (L.getD i p0).v ∧ I64 (L.getD i p0).t) (hd : I64 b.dead) (hq : I64 b.quiet) :
    Calls Try.prog 7 #[.agg #[.int .i64 b.dead, .int .i64 b.quiet], .slice A L.length cap, .int .i64 cut] w fun e w' => e = .returned (.bool true) ∧ Below w.heap.size w w' := by
  by_cases hbig : 16384 < L.length
  · exact long_ A cap b L.length cut w hbig
  have hbi : ¬ (16384 : Int) < (L.length : Int) := by omega
  obtain ⟨i0, hi0, hz0, hz1, hz2⟩ := info_parts infoP
  have HA := Lib.hid hA
  have HF := Lib.hid hL
  have HDQ := Lib.hid (And.intro hd hq)
  clear hA hL hd hq
  obtain ⟨kk, hkk, hpick⟩ := pick_at cut L.length (w.alloc (.cells #[.int .i64 b.dead, .int .i64 b.quiet] 23)) (by omega)
  have HPK := Lib.hid hpick
  clear hpick
  go_enter Try.func7, Try.ntmps7
  go_wp2_with fail
  refine HPK.out.mono ?_
  rintro e w1 ⟨rfl, rfl⟩
  have B0 := Blk.new w 23 #[.int .i64 b.dead, .int .i64 b.quiet]
  have hbw : Below w.heap.size w (w.alloc (.cells #[.int .i64 b.dead, .int .i64 b.quiet] 23)) := by (repeat (first | (with_reducible assumption) | (with_reducible exact Below.refl _ _) | ((with_reducible refine Below.setCell ?_ ?_ _); rotate_left; · (first | omega | (simp; done) | (simp; omega) | (simp at *; omega))) | ((with_reducible refine Below.alloc ?_ ?_ _); rotate_left; · (first | omega | (simp; done) | (simp; omega) | (simp at *; omega))) | (with_reducible refine Below.drew ?_) | (with_reducible refine below_drewN ?_ _) | ((refine Below.trans ?_ (Below.mono (by with_reducible assumption) ?_)); rotate_left; · (first | omega | (simp; done) | (simp; omega) | (simp at *; omega)))))
  have hPA := HA.out.below hbw (Nat.le_refl _)
  obtain ⟨wa, hwa⟩ : ∃ wa : World, wa = w.alloc (.cells #[.int .i64 b.dead, .int .i64 b.quiet] 23) := ⟨_, rfl⟩
  have hsz : wa.heap.size = w.heap.size + 1 := by rw [hwa]; simp
  rw [← hwa] at B0 hbw hPA HPK ⊢
  clear hwa HPK
  have HB0 := Lib.hid B0
  have HBW := Lib.hid hbw
  have HPA := Lib.hid hPA
  have hla : w.heap.size < wa.heap.size := by omega
  clear B0 hbw hPA hsz
  go_upto_region 4 with fail
  go_cut [8] (fun s8 wx => Hold w b (outTo b L kk) s8 wx)
  case first =>
    obtain ⟨e0, e1, _, _⟩ := HB0.out.two
    have hk0 : (0 : Int) ≤ (kk : Int) := by omega
    have hkl : (kk : Int) ≤ (L.length : Int) := by omega
    have hkc : (kk : Int) ≤ (cap : Int) := by omega
    have hkt : (L.take kk).length = kk := by rw [List.length_take]; omega
    have HKT := Lib.hid hkt
    clear hkt
    go_region_held3 (fun w' => w'.cell? ⟨w.heap.size, 0, none⟩ = some (.int .i64 b.dead) ∧ w'.cell? ⟨w.heap.size, 1, none⟩ = some (.int .i64 b.quiet) ∧ Below wa.heap.size wa w')
      (first
        | exact ⟨e0, e1, (Below.refl _ _).drew⟩
        | (go_split_ands
           refine ⟨(hb.cell (p := ⟨w.heap.size, 0, none⟩) (Nat.lt_of_lt_of_le hla (Below.size (by assumption)))).trans (by assumption), (hb.cell (p := ⟨w.heap.size, 1, none⟩) (Nat.lt_of_lt_of_le hla (Below.size (by assumption)))).trans (by assumption), Below.trans (by assumption) (hb.mono (Below.size (by assumption)))⟩))
      (first
        | (go_at_call 14; refine (run_at _ kk _ b (L.take kk) (outTo b L kk) _ HKT.out (BandParts.PointsAt.take (HPA.out.below (Below.refl wa.heap.size wa).drew (Nat.le_refl _)) kk) (by omega) (fun i hi => by rw [HKT.out] at hi; rw [getD_take L kk i hi]; exact HF.out i (by omega)) HDQ.out.1 HDQ.out.2 (out_take b L kk kk (Nat.le_refl _))).mono ?_; rintro e w' ⟨A', c', rfl, hA', hb⟩)
        | (go_at_call 22; refine (copy_points _ _ (outTo b L kk) _ (by assumption) (by have := out_len b L kk; omega)).mono ?_; rintro e w' ⟨v, rfl, hown, hb⟩; (try go_split_ands); have hown2 := own_mono hown (Nat.le_trans (Nat.le_of_lt hla) (Below.size (B := wa.heap.size) (by assumption)))))
    go_wp2_with fail
    go_meet
    go_split_ands
    have hbb : Below wa.heap.size wa w' := by assumption
    exact ⟨hown2, HB0.out.below hbb hla, HBW.out.trans (hbb.mono (by omega))⟩
  case rest =>
    obtain ⟨wq, rfl⟩ : ∃ wq : World, wq = wc := ⟨_, rfl⟩
    have hH := hcut
    clear hcut
    obtain ⟨Au, cu, rfl, hpu⟩ := has_of hH.1
    have hlq := hH.2.1.lt
    have HH := Lib.hid hH
    have HPU := Lib.hid hpu
    clear hH hpu
    have hhl := held_last b L kk
    have hex : (kk = 0 ∧ (outTo b L kk).length = 0) ∨ ∃ j, (outTo b L kk).length = j + 1 ∧ (outTo b L kk).getD j p0 = ⟨(heldTo b L kk).v, (heldTo b L kk).t⟩ ∧ (heldTo b L kk).has = true := by
      rcases Nat.eq_zero_or_pos kk with h | h
      · left; subst h; exact ⟨rfl, rfl⟩
      · right
        obtain ⟨h1, h2, h3⟩ := hhl h
        exact ⟨(outTo b L kk).length - 1, by omega, h3, h1⟩
    have HEX := Lib.hid hex
    have hol := out_len b L kk
    clear hhl hex
    go_upto_if 32 with fail
    go_cut [9, 10] (fun s9 s10 wx => s9 = .pointer (some ⟨wq.heap.size, 0, none⟩) ∧ Hold w b (outTo b L kk) (.slice Au (outTo b L kk).length cu) wx ∧ Blk wx wq.heap.size 25 #[.bool (heldTo b L kk).has, .int .i64 (heldTo b L kk).v, .int .i64 (heldTo b L kk).t])
    case first =>
      have BH := Blk.new wq 25 #[.bool false, .int .i64 0, .int .i64 0]
      have HBH := Lib.hid BH
      have HH2 := Lib.hid (HH.out.below ((Below.refl wq.heap.size wq).alloc (Nat.le_refl _) (.cells #[.bool false, .int .i64 0, .int .i64 0] 25)))
      rcases HEX.out with ⟨z, z2⟩ | ⟨j, j1, j2, j3⟩
      · have HO := Lib.hid z2
        rw [z2]
        subst z
        clear z2
        go_wp2_with fail
        go_meet
        exact ⟨rfl, by rw [← HO.out]; exact HH2.out, HBH.out⟩
      · obtain ⟨bu, bo, rfl, hbu, hS⟩ := HPU.out (by omega)
        obtain ⟨c0, c1⟩ := hS j (by omega)
        rw [j2] at c0 c1
        dsimp only at c0 c1
        have hn0 : (0 : Int) < ((outTo b L kk).length : Int) := by omega
        have hn1 : 0 < (outTo b L kk).length := by omega
        have hnj : ((outTo b L kk).length : Int) - 1 = (j : Int) := by omega
        have hj0 : (0 : Int) ≤ (j : Int) := by omega
        have hji : (j : Int) < ((outTo b L kk).length : Int) := by omega
        have hjB : (j : Int) ≤ 16384 := by omega
        obtain ⟨h, hh⟩ : ∃ h, h = heldTo b L kk := ⟨_, rfl⟩
        rw [← hh] at j3 c0 c1
        have HHH := Lib.hid hh
        obtain ⟨q0, q1, q2, q3, q4, q5⟩ := BH.three
        have HJ3 := Lib.hid j3
        clear BH hS j2 hh j1 j3
        go_wp2_with fail
        go_meet
        rw [← HHH.out, HJ3.out]
        exact ⟨rfl, (HH.out.below ((Below.refl _ _).alloc (Nat.le_refl _) _)).below ((Below.refl _ _).alloc (Nat.le_refl _) _), (Blk.new _ _ _).alloc _⟩
    case rest =>
      obtain ⟨rfl, hH, hB⟩ := hcut
      obtain ⟨wr, rfl⟩ : ∃ wr : World, wr = wc := ⟨_, rfl⟩
      have HR := Lib.hid (And.intro hH hB)
      obtain ⟨hBn, hhB⟩ : ∃ n, n = wq.heap.size := ⟨_, rfl⟩
      rw [← hhB] at HR hlq ⊢
      obtain ⟨ou, hou⟩ : ∃ u, u = Value.slice Au (outTo b L kk).length cu := ⟨_, rfl⟩
      rw [← hou] at HR ⊢
      clear hH hB hhB HH HPU HEX hou hol
      go_wp2_with fail
      go_loopg [8, 11] (L.length - kk) (fun g ov i wz => ∃ k : Nat, kk ≤ k ∧ k ≤ L.length ∧ g = L.length - k ∧ i = .int .i64 k ∧ Hold w b (outTo b L k) ov wz ∧ Blk wz hBn 25 #[.bool (heldTo b L k).has, .int .i64 (heldTo b L k).v, .int .i64 (heldTo b L k).t])
      case atStart => exact ⟨kk, Nat.le_refl _, hkk, rfl, rfl, HR.out.1, HR.out.2⟩
      case round =>
        clear HR
        obtain ⟨k, hkk1, hk, rfl, rfl, hH, hB⟩ := hrel
        obtain ⟨wz, rfl⟩ : ∃ wz : World, wz = wr := ⟨_, rfl⟩
        have hl1 := hH.2.1.lt
        have hl2 := hB.lt
        have HH := Lib.hid hH
        have HB := Lib.hid hB
        clear hH hB
        by_cases hlt : k < L.length
        · have hki : (k : Int) < (L.length : Int) := by omega
          have hk0 : (0 : Int) ≤ (k : Int) := by omega
          obtain ⟨bb, off, rfl, hb, hS⟩ := HA.out (by omega)
          obtain ⟨c0, c1⟩ := hS k hlt
          have hbz := HH.out.2.2
          have hwz := hbz.size
          have x0 := (hbz.cell (p := ⟨bb, off + k * 2, none⟩) hb).trans c0
          have x1 := (hbz.cell (p := ⟨bb, off + k * 2 + 1, none⟩) hb).trans c1
          have hfit := held_fit b L HF.out k (by omega)
          have hpf := HF.out k hlt
          have hyes := @out_yes b L k
          have hno := @out_no b L k
          have hnx : heldTo b L (k + 1) = next b (heldTo b L k) (L.getD k p0) := rfl
          have hol := out_len b L k
          have hgx := pcells_int (outTo b L k)
          obtain ⟨x, hx⟩ : ∃ x, x = L.getD k p0 := ⟨_, rfl⟩
          rw [← hx] at x0 x1 hpf hyes hno hnx
          obtain ⟨h, hh⟩ : ∃ h, h = heldTo b L k := ⟨_, rfl⟩
          rw [← hh] at HB hfit hyes hno hnx
          obtain ⟨O, hO⟩ : ∃ O, O = outTo b L k := ⟨_, rfl⟩
          rw [← hO] at HH hyes hno hol hgx
          have HST := Lib.hid (fun W => step_any b h x W hpf.1 hfit.1 hpf.2 hfit.2 HDQ.out.1 HDQ.out.2)
          have HY := Lib.hid hyes
          have HNO := Lib.hid hno
          have HNX := Lib.hid hnx
          have HGX := Lib.hid hgx
          have hbb : bb < wz.heap.size := by omega
          clear c0 c1 hS hfit hpf hyes hno hnx hx hh hO hbz hgx
          go_upto_region 12 with fail
          go_cut [12, 13] (fun s12 s13 wx => ∃ g : Nat, s12 = .pointer (some ⟨g, 0, none⟩) ∧ s13 = .bool (told b h x) ∧ wz.heap.size ≤ g ∧ Blk wx g 25 #[.bool (next b h x).has, .int .i64 (next b h x).v, .int .i64 (next b h x).t] ∧ Below wz.heap.size wz wx)
          case first =>
            obtain ⟨e0, e1, _, _⟩ := HH.out.2.1.two
            obtain ⟨f0, f1, f2, _, _, _⟩ := HB.out.three
            go_region_held3 (fun w' => w'.cell? ⟨w.heap.size, 0, none⟩ = some (.int .i64 b.dead) ∧ w'.cell? ⟨w.heap.size, 1, none⟩ = some (.int .i64 b.quiet) ∧
                w'.cell? ⟨hBn, 0, none⟩ = some (.bool h.has) ∧ w'.cell? ⟨hBn, 1, none⟩ = some (.int .i64 h.v) ∧ w'.cell? ⟨hBn, 2, none⟩ = some (.int .i64 h.t) ∧
                w'.cell? ⟨bb, off + k * 2, none⟩ = some (.int .i64 x.v) ∧ w'.cell? ⟨bb, off + k * 2 + 1, none⟩ = some (.int .i64 x.t) ∧ wz.heap.size ≤ w'.heap.size ∧ Below wz.heap.size wz w')
              ((go_split_ands; refine keep7 ?_ e0 e1 f0 f1 f2 x0 x1 hl1 hl2 hbb; (repeat (first | (with_reducible assumption) | (with_reducible exact Below.refl _ _) | ((with_reducible refine Below.setCell ?_ ?_ _); rotate_left; · (first | omega | (simp; done) | (simp; omega) | (simp at *; omega))) | ((with_reducible refine Below.alloc ?_ ?_ _); rotate_left; · (first | omega | (simp; done) | (simp; omega) | (simp at *; omega))) | (with_reducible refine Below.drew ?_) | (with_reducible refine below_drewN ?_ _) | ((refine Below.trans ?_ (Below.mono (by with_reducible assumption) ?_)); rotate_left; · (first | omega | (simp; done) | (simp; omega) | (simp at *; omega)))))))
              (first
                | (go_at_call 9; refine (HST.out _).mono ?_; rintro e w2 ⟨rfl, hb2⟩; (try go_split_ands); (try (have B2 := ((Blk.new wz 25 #[.bool false, .int .i64 0, .int .i64 0]).drew).below hb2 (by simp); obtain ⟨q0, q1, q2, q3, q4, q5⟩ := B2.three)); have hk2 : Below wz.heap.size wz w2 := (by (repeat (first | (with_reducible assumption) | (with_reducible exact Below.refl _ _) | ((with_reducible refine Below.setCell ?_ ?_ _); rotate_left; · (first | omega | (simp; done) | (simp; omega) | (simp at *; omega))) | ((with_reducible refine Below.alloc ?_ ?_ _); rotate_left; · (first | omega | (simp; done) | (simp; omega) | (simp at *; omega))) | (with_reducible refine Below.drew ?_) | (with_reducible refine below_drewN ?_ _) | ((refine Below.trans ?_ (Below.mono (by with_reducible assumption) ?_)); rotate_left; · (first | omega | (simp; done) | (simp; omega) | (simp at *; omega)))))); have hs2 := hk2.size))
            · go_wp2_with fail
              go_meet
              exact ⟨w2.heap.size, rfl, rfl, hs2, Blk.new _ _ _, hk2.alloc hs2 _⟩
            · have B3 := ((B2.set_ 0 (.bool (next b h x).has)).set_ 1 (.int .i64 (next b h x).v)).set_ 2 (.int .i64 (next b h x).t)
              have hk3 := ((hk2.setCell (p := ⟨wz.heap.size, 0, none⟩) (Nat.le_refl _) (.bool (next b h x).has)).setCell (p := ⟨wz.heap.size, 1, none⟩) (Nat.le_refl _) (.int .i64 (next b h x).v)).setCell (p := ⟨wz.heap.size, 2, none⟩) (Nat.le_refl _) (.int .i64 (next b h x).t)
              have HB3 := Lib.hid B3
              have HK3 := Lib.hid hk3
              clear B3 hk3
              go_wp2_with fail
              go_meet
              exact ⟨wz.heap.size, rfl, rfl, Nat.le_refl _, HB3.out, HK3.out⟩
          case rest =>
            obtain ⟨g, rfl, rfl, hg, hN, hbx⟩ := hcut
            obtain ⟨wx, rfl⟩ : ∃ wx : World, wx = wc := ⟨_, rfl⟩
            have HX := Lib.hid (And.intro (HH.out.below hbx) (HB.out.below hbx hl2))
            have HNB := Lib.hid hN
            have hgx := hN.lt
            have hwx := hbx.size
            obtain ⟨y, hy⟩ : ∃ y, y = next b h x := ⟨_, rfl⟩
            obtain ⟨tt, htt⟩ : ∃ tt, tt = told b h x := ⟨_, rfl⟩
            have hdis : (tt = true ∧ y.has = true ∧ outTo b L (k + 1) = O ++ [x]) ∨ (tt = false ∧ y = h ∧ outTo b L (k + 1) = O) := by
              cases ht : told b h x with
              | true => left; exact ⟨by rw [htt, ht], by rw [hy, next, if_pos ht], HY.out ht⟩
              | false => right; exact ⟨by rw [htt, ht], by rw [hy, next, if_neg (by rw [ht]; simp)], HNO.out ht⟩
            rw [← hy] at HNX HNB
            rw [← htt]
            have HDIS := Lib.hid hdis
            have x0' := (hbx.cell (p := ⟨bb, off + k * 2, none⟩) hbb).trans x0
            have x1' := (hbx.cell (p := ⟨bb, off + k * 2 + 1, none⟩) hbb).trans x1
            have hbb' : bb < wx.heap.size := by omega
            clear hN hbx HH HB HY HNO HST hdis hy htt x0 x1
            go_upto_if 61 with fail
            go_cut [8] (fun s8 wy => Hold w b (outTo b L (k + 1)) s8 wy ∧ Blk wy hBn 25 #[.bool h.has, .int .i64 h.v, .int .i64 h.t] ∧ Blk wy g 25 #[.bool y.has, .int .i64 y.v, .int .i64 y.t])
            case first =>
              rcases HDIS.out with ⟨rfl, h2, h3⟩ | ⟨rfl, h2, h3⟩
              · have HO := Lib.hid h3
                have k3 : O.length + 1 ≤ maxLen := by unfold maxLen; omega
                have k4 : (O.length + 1) * 16 ≤ 140737488355328 := by omega
                have k5 : w.heap.size ≤ (wx.alloc (.cells #[.int .i64 x.v, .int .i64 x.t] 27)).heap.size := by simp; omega
                have K2 := Lib.hid (two_ints x)
                have HOW := Lib.hid (HX.out.1.1.alloc (.cells #[.int .i64 x.v, .int .i64 x.t] 27))
                clear h2 h3
                go_wp2_with (at_builtin; refine wpList_append_G _ rfl (.tmp 62) (.tmp 67) 33 rfl IsInt w.heap.size 27 i0 _ 2 16 Try.underlying33 hi0 hz0 hz1 hz2 rfl (by omega) _ O.length (O.flatMap pcells) rfl HOW.out ⟨wx.heap.size, 0, none⟩ 1 1 [.int .i64 x.v, .int .i64 x.t] rfl rfl (World.news_of_block (cs := #[.int .i64 x.v, .int .i64 x.t]) (t := 27) (fr := (0, 0)) (heap_alloc_new wx _)) K2.out.1 k3 k4 k5 zero_ints K2.out.2 HGX.out ?_; intro v' w3 hown3 hgrow)
                go_meet
                rw [HO.out]
                have hXA := HX.out.1.below ((Below.refl wx.heap.size wx).alloc (Nat.le_refl _) (.cells #[.int .i64 x.v, .int .i64 x.t] 27))
                exact ⟨hXA.push (by simpa [pcells] using hown3) hgrow, (HX.out.2.alloc _).grown hgrow (own_ne_type hXA.1 (HX.out.2.alloc _) (by decide)), (HNB.out.alloc _).grown hgrow (own_ne_type hXA.1 (HNB.out.alloc _) (by decide))⟩
              · have HO := Lib.hid h3
                clear h2 h3
                go_wp2_with fail
                go_meet
                rw [HO.out]
                exact ⟨HX.out.1, HX.out.2, HNB.out⟩
            case rest =>
              obtain ⟨hH, hB, hN⟩ := hcut
              obtain ⟨wy, rfl⟩ : ∃ wy : World, wy = wc := ⟨_, rfl⟩
              have HY := Lib.hid (And.intro hH (And.intro hB hN))
              obtain ⟨f0, f1, f2, f3, f4, f5⟩ := hB.three
              obtain ⟨g0, g1, g2, _, _, _⟩ := hN.three
              have hly1 := hB.lt
              have hly2 := hN.lt
              have hne : g ≠ hBn := by omega
              have hne' : hBn ≠ g := by omega
              clear hH hB hN
              rcases HDIS.out with ⟨rfl, h2, h3⟩ | ⟨rfl, h2, h3⟩
              · have H2 := Lib.hid h2
                rw [h2] at g0
                clear h2 h3
                go_wp2_with fail
                all_goals
                  go_roundg (L.length - (k + 1))
                  case measure => omega
                  case rel =>
                    refine ⟨k + 1, by omega, by omega, rfl, by go_num, ((HY.out.1.far HY.out.2.1 (by decide) hlq _).far (HY.out.2.1.set_ 0 _) (by decide) hlq _).far ((HY.out.2.1.set_ 0 _).set_ 1 _) (by decide) hlq _, ?_⟩
                    rw [HNX.out, H2.out]
                    exact ((HY.out.2.1.set_ 0 _).set_ 1 _).set_ 2 _
              · rw [h2] at g0 g1 g2 HY HNX
                clear h2 h3
                rcases (by cases h.has <;> simp : h.has = true ∨ h.has = false) with hz | hz
                all_goals
                  have HZ := Lib.hid hz
                  rw [hz] at g0 f0
                  clear hz
                  go_wp2_with fail
                  go_roundg (L.length - (k + 1))
                  case measure => omega
                  case rel =>
                    refine ⟨k + 1, by omega, by omega, rfl, by go_num, ((HY.out.1.far HY.out.2.1 (by decide) hlq _).far (HY.out.2.1.set_ 0 _) (by decide) hlq _).far ((HY.out.2.1.set_ 0 _).set_ 1 _) (by decide) hlq _, ?_⟩
                    rw [HNX.out, HZ.out]
                    exact ((HY.out.2.1.set_ 0 _).set_ 1 _).set_ 2 _
        · obtain rfl : k = L.length := by omega
          have HO := Lib.hid (out_len b L L.length)
          obtain ⟨Av, cv, rfl, hpv⟩ := has_of HH.out.1
          have HPV := Lib.hid hpv
          obtain ⟨e0, e1, _, _⟩ := HH.out.2.1.two
          have hki : ¬ (L.length : Int) < (L.length : Int) := by omega
          clear hpv
          go_wp2_with fail
          refine (run_at A L.length cap b L (outTo b L L.length) _ rfl (HA.out.below HH.out.2.2 (Nat.le_refl _)) hlen HF.out HDQ.out.1 HDQ.out.2 rfl).mono ?_
          rintro e w2 ⟨A2, c2, rfl, hA2, hb2⟩
          have HA2 := Lib.hid hA2
          have HPV2 := Lib.hid (HPV.out.below hb2 (Nat.le_refl _))
          have HW2 := Lib.hid (HH.out.2.2.trans (hb2.mono (Nat.le_of_lt hl1)))
          have hs2 := hb2.size
          clear hA2 hb2 e0 e1
          go_wp2_with fail
          refine (same_at Av A2 _ _ cv c2 (outTo b L L.length) (outTo b L L.length) _ rfl rfl HPV2.out HA2.out (by have := HO.out; omega) rfl).mono ?_
          rintro e w3 ⟨rfl, hb3⟩
          have hs3 := hb3.size
          have HB3 := Lib.hid hb3
          clear hb3
          go_wp2_with fail
          refine (known_any _).mono ?_
          rintro e w4 ⟨rfl, hb4⟩
          go_wp2
          go_ret
          exact ⟨rfl, (HW2.out.trans (HB3.out.mono (by omega))).trans (hb4.mono (by omega))⟩

theorem own : ownKnob Try.prog.godebug = none := by kernel_rfl

set_option maxRecDepth 100000 in
theorem lifted (os : Os) (started : os.Started) (H : Type) (enc : TypeId × Value → H) :
    ReturnsInHanded {} Try.checked os 7 .any (Rows.bandPartsSpec.pre6 enc Try.prog Try.f7 Rows.bandPartsRow.domain false) (Rows.bandPartsSpec.post enc Try.prog Try.f7 false true false false) := by
  refine law_lifted (C := Try.checked) (tb := 4) own started (by kernel_rfl) Try.func7
    (ChangeSpec.witness6 (enc := enc) (C := Try.checked) false ⟨#[], #[.agg #[.int .i64 0, .int .i64 0], .slice none 0 0, .int .i64 0], []⟩ 8 (by kernel_rfl) (by kernel_rfl) (by kernel_rfl) (by kernel_rfl))
    rfl (by kernel_rfl) (by kernel_rfl) (by kernel_rfl) Try.underlying4 (fun ds h => ?_) ?_
  · rw [show Try.f7.params = #[23, 33, 3] from Try.params7] at h
    match ds, h with
    | [_, _, _], _ => rfl
  · intro W base args ds before hval hA hlt hsz
    rw [show Try.f7.params = #[23, 33, 3] from Try.params7] at hA hval hsz
    obtain ⟨v0, vs0, d0, ds0, p0, q0, hargs, rfl, rfl, h0, r0⟩ := trodAll_cons hA
    obtain ⟨v1, vs1, d1, ds1, p1, q1, rfl, rfl, rfl, h1, r1⟩ := trodAll_cons r0
    obtain ⟨v2, vs2, d2, ds2, p2, q2, rfl, rfl, rfl, h2, r2⟩ := trodAll_cons r1
    obtain ⟨rfl, rfl, rfl⟩ := trodAll_nil r2
    obtain rfl : args = #[v0, v1, v2] := by cases args; simp_all
    obtain ⟨b, rfl, hd, hq⟩ := open_band (hval 0 _ v0 rfl rfl) h0
    obtain ⟨A, cap, L, rfl, hcap, hc16, hS, hF⟩ := open_points (hval 1 _ v1 rfl rfl) h1 hsz (j := 1) rfl rfl
    obtain ⟨cut, rfl, _, _, _⟩ := open_int Try.underlying3 (hval 2 3 v2 rfl rfl) h2
    exact walk A cap b L cut W hS hcap (by omega) hF hd hq

theorem proved : Rows.BandPartsSaid :=
  OpenClaim.holds_of_wide 7 Try.f7 rfl rfl rfl rfl rfl rfl rfl ⟨rfl, rfl, rfl, rfl, rfl⟩ rfl rfl rfl rfl rfl (by kernel_rfl) Try.func7 (by kernel_rfl)
    (of_decide_eq_true (by kernel_rfl)) (by unfold Func.isWrapper; rw [if_neg (of_decide_eq_false (by kernel_rfl))]; exact ⟨rfl, rfl⟩)
    (fun os started H enc _ => lifted os started H enc)
#print axioms proved
end BandParts
end Go.Proofs.Ytjidfcogcgaclaa
