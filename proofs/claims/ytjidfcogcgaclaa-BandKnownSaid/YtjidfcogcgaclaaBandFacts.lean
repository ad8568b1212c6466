/-
  What is proved here: what far, points and known (chapter 7's laws) answer. Conditions: the numbers are of the machine's kind.
-/
import Derived.Test.YtjidfcogcgaclaaBandMore
import Derived.Test.YtjidfcogcgaclaaPointApart
namespace Go.Proofs.Ytjidfcogcgaclaa
open Go.RowKit Go.Deep

set_option maxHeartbeats 1000000 in
theorem far_any (a b c : Int) (ha : I64 a) (hb : I64 b) (hc : I64 c) (w : World) :
    Calls Try.prog 20 #[.int .i64 a, .int .i64 b, .int .i64 c] w fun e w' => e = .returned (.bool (decide (max c 0 < dist a b))) ∧ w' = w := by
  have h1 : a < b → IntKind.u64.wrap (IntKind.u64.wrap b - IntKind.u64.wrap a) = b - a := fun h => u64_of hb ha (by omega)
  have h2 : ¬ a < b → IntKind.u64.wrap (IntKind.u64.wrap a - IntKind.u64.wrap b) = a - b := fun h => u64_of ha hb (by omega)
  have h3 : ¬ c < 0 → IntKind.u64.wrap c = c := fun h => u64_pos hc (by omega)
  have HD : dist a b = if b < a then a - b else b - a := rfl
  have H := Lib.hid HD
  have H1 := Lib.hid h1
  have H2 := Lib.hid h2
  have H3 := Lib.hid h3
  clear HD h1 h2 h3
  by_cases q : a < b
  · have ed : dist a b = b - a := by rw [H.out, if_neg (by omega)]
    have ED := Lib.hid ed
    have E1 := Lib.hid (H1.out q)
    clear ed
    by_cases hp : c < 0
    · go_enter Try.func20, Try.ntmps20
      go_wp2
      go_ret
      exact ⟨ret_bool (decide_eq_decide.2 (by rw [ED.out, E1.out]; omega)), rfl⟩
    · have E3 := Lib.hid (H3.out hp)
      go_enter Try.func20, Try.ntmps20
      go_wp2
      go_ret
      exact ⟨ret_bool (decide_eq_decide.2 (by rw [ED.out, E1.out]; try rw [E3.out]; omega)), rfl⟩
  · have ed : dist a b = a - b := by
      rw [H.out]; split
      · rfl
      · omega
    have ED := Lib.hid ed
    have E1 := Lib.hid (H2.out q)
    clear ed
    by_cases hp : c < 0
    · go_enter Try.func20, Try.ntmps20
      go_wp2
      go_ret
      exact ⟨ret_bool (decide_eq_decide.2 (by rw [ED.out, E1.out]; omega)), rfl⟩
    · have E3 := Lib.hid (H3.out hp)
      go_enter Try.func20, Try.ntmps20
      go_wp2
      go_ret
      exact ⟨ret_bool (decide_eq_decide.2 (by rw [ED.out, E1.out]; try rw [E3.out]; omega)), rfl⟩

theorem has_of {w : World} {base : Nat} {v : Value} {L : List Point} (h : OwnG IsInt w base 27 2 v L.length (L.flatMap pcells)) : Has w v L := by
  rcases row_of_own h with ⟨rfl, rfl⟩ | ⟨g, c, rfl, _, _, hr⟩
  · exact ⟨none, 0, rfl, fun h => absurd h (by simp)⟩
  · exact ⟨_, _, rfl, hr.at_⟩
theorem points_of_blk {w : World} {g : Nat} {t : TypeId} {cs : Array Value} {L : List Point} (h : Blk w g t cs) (e : cs.toList = L.flatMap pcells) : PointsAt w (some ⟨g, 0, none⟩) L := by
  intro _
  refine ⟨g, 0, rfl, h.lt, fun i hi => ?_⟩
  obtain ⟨c0, c1⟩ := pcells_at L i hi
  rw [← e, Array.getElem?_toList] at c0 c1
  simp only [Nat.zero_add]
  exact ⟨(h.cell _).trans c0, (h.cell _).trans c1⟩
theorem ints_of_blk {k : IntKind} {w : World} {g : Nat} {t : TypeId} {cs : Array Value} {L : List Int} (h : Blk w g t cs) (e : cs.toList = L.map (Value.int k)) : IntsAt k w (some ⟨g, 0, none⟩) L := by
  intro _
  refine ⟨g, 0, rfl, h.lt, fun i hi => ?_⟩
  have c0 : (L.map (Value.int k))[i]? = some (.int k (L.getD i 0)) := by simp [hi]
  rw [← e, Array.getElem?_toList] at c0
  simp only [Nat.zero_add]
  exact (h.cell _).trans c0

/-- what a run tells, as a list value. -/
def RunBack (w : World) (M : List Point) (e : Ending) (w' : World) : Prop := ∃ A c, e = .returned (.slice A M.length c) ∧ PointsAt w' A M ∧ Below w.heap.size w w'
theorem run_at (A : Option Addr) (n ca : Nat) (b : Band) (L M : List Point) (w : World) (hn : L.length = n) (hA : PointsAt w A L) (hlen : n * 16 ≤ 140737488351232)
    (hL : ∀ i, i < L.length → I64 (L.getD i p0).v ∧ I64 (L.getD i p0).t) (hd : I64 b.dead) (hq : I64 b.quiet) (hM : outTo b L n = M) :
    Calls Try.prog 14 #[.agg #[.int .i64 b.dead, .int .i64 b.quiet], .slice A n ca] w (RunBack w M) := by
  subst hn
  refine (run_any A ca b L w hA hlen hL hd hq).mono ?_
  rintro e w' ⟨v, rfl, ho, hb⟩
  rw [hM] at ho
  obtain ⟨A', c', rfl, h⟩ := has_of ho
  exact ⟨A', c', rfl, h, hb⟩
theorem same_at (A B : Option Addr) (n m ca cb : Nat) (L M : List Point) (w : World) (hn : L.length = n) (hm : M.length = m) (hA : PointsAt w A L) (hB : PointsAt w B M) (hlen : n ≤ 140737488351232) (heq : L = M) :
    Calls Try.prog 15 #[.slice A n ca, .slice B m cb] w fun e w' => e = .returned (.bool true) ∧ Below w.heap.size w w' := by
  subst hn hm
  refine (same_points A B ca cb L M w hA hB hlen).mono ?_
  rintro e w' ⟨rfl, hb⟩
  exact ⟨by rw [decide_eq_true heq], hb⟩

/-- points at the times 0, 1, 2 and so on. -/
def ptsTo (L : List Int) (k : Nat) : List Point := (List.range k).map fun (i : Nat) => ⟨L.getD i 0, (i : Int)⟩
theorem pts_succ (L : List Int) (k : Nat) : ptsTo L (k + 1) = ptsTo L k ++ [⟨L.getD k 0, (k : Int)⟩] := by simp [ptsTo, List.range_succ]
theorem pts_len (L : List Int) (k : Nat) : (ptsTo L k).length = k := by simp [ptsTo]

set_option maxHeartbeats 1000000 in
theorem points_any (A : Option Addr) (ca : Nat) (L : List Int) (w : World) (hA : IntsAt .i64 w A L) (hlen : L.length * 16 ≤ 140737488351232) :
    Calls Try.prog 26 #[.slice A L.length ca] w (NewList w (ptsTo L L.length)) := by
  obtain ⟨i0, hi0, hz0, hz1, hz2⟩ := info_parts infoP
  have HA := Lib.hid hA
  clear hA
  go_enter Try.func26, Try.ntmps26
  go_wp2
  go_loopg [3, 4] L.length (fun g ov i wr => ∃ k : Nat, k ≤ L.length ∧ g = L.length - k ∧ i = .int .i64 k ∧ OwnG IsInt wr w.heap.size 27 2 ov (ptsTo L k).length ((ptsTo L k).flatMap pcells) ∧ Below w.heap.size w wr)
  case atStart => exact ⟨0, Nat.zero_le _, rfl, rfl, by simpa [ptsTo] using OwnG.nil_ w w.heap.size _ 2, Below.refl _ _⟩
  case round =>
    obtain ⟨k, hk, rfl, rfl, hown, hbw⟩ := hrel
    by_cases hlt : k < L.length
    · obtain ⟨b, off, rfl, hb, hS⟩ := HA.out (by omega)
      have h0 := (hbw.cell (p := ⟨b, off + k, none⟩) hb).trans (hS k hlt)
      have hst := pts_succ L k
      obtain ⟨x, hx⟩ : ∃ x, x = L.getD k 0 := ⟨_, rfl⟩
      rw [← hx] at h0 hst
      have hgx := pcells_int (ptsTo L k)
      have hol := pts_len L k
      have HST := Lib.hid hst
      have HOL := Lib.hid hol
      clear hS hx hst
      obtain ⟨O, hO⟩ : ∃ O, O = ptsTo L k := ⟨_, rfl⟩
      rw [← hO] at hown HST HOL hgx hol
      clear hO
      have hki : (k : Int) < (L.length : Int) := by omega
      have hk0 : (0 : Int) ≤ (k : Int) := by omega
      have hws := hbw.size
      have hok : O.length ≤ k := by omega
      clear hol
      have k3 : O.length + 1 ≤ maxLen := by unfold maxLen; omega
      have k4 : (O.length + 1) * 16 ≤ 140737488355328 := by omega
      have k5 : w.heap.size ≤ (wr.alloc (.cells #[.int .i64 x, .int .i64 (k : Int)] 27)).heap.size := by simp; omega
      have K2 := Lib.hid (two_ints ⟨x, (k : Int)⟩)
      go_wp2_with (at_builtin; refine wpList_append_G _ rfl (.tmp 11) (.tmp 18) 33 rfl IsInt w.heap.size 27 i0 _ 2 16 Try.underlying33 hi0 hz0 hz1 hz2 rfl (by omega) _ O.length (O.flatMap pcells) rfl (hown.alloc _) ⟨wr.heap.size, 0, none⟩ 1 1 [.int .i64 x, .int .i64 (k : Int)] rfl rfl (World.news_of_block (cs := #[.int .i64 x, .int .i64 (k : Int)]) (t := 27) (fr := (0, 0)) (heap_alloc_new wr _)) K2.out.1 k3 k4 k5 zero_ints K2.out.2 hgx ?_; intro v' w3 hown3 hgrow; have hb3 : Below w.heap.size w w3 := (hbw.alloc (by omega) _).grown hgrow k5 (fun q hq => (hown.1.lt q hq).1))
      go_roundg (L.length - (k + 1))
      case measure => omega
      case rel =>
        refine ⟨k + 1, by omega, rfl, by go_num, ?_, hb3⟩
        rw [HST.out, List.length_append, List.flatMap_append]; simpa [pcells] using hown3
    · obtain rfl : k = L.length := by omega
      have hki : ¬ (L.length : Int) < (L.length : Int) := by omega
      go_wp2
      go_ret
      exact ⟨_, rfl, hown, hbw⟩
theorem points_at (A : Option Addr) (n ca : Nat) (L : List Int) (w : World) (hn : L.length = n) (hA : IntsAt .i64 w A L) (hlen : n * 16 ≤ 140737488351232) :
    Calls Try.prog 26 #[.slice A n ca] w fun e w' => ∃ A c, e = .returned (.slice A n c) ∧ PointsAt w' A (ptsTo L n) ∧ Below w.heap.size w w' := by
  subst hn
  refine (points_any A ca L w hA hlen).mono ?_
  rintro e w' ⟨v, rfl, ho, hb⟩
  obtain ⟨A', c', rfl, h⟩ := has_of ho
  exact ⟨A', c', by rw [pts_len], h, hb⟩

theorem all_fit {L : List Point} (h : (L.all fun p => decide (-9223372036854775808 ≤ p.v) && decide (p.v ≤ 9223372036854775807) && decide (-9223372036854775808 ≤ p.t) && decide (p.t ≤ 9223372036854775807)) = true) : ∀ i, i < L.length → I64 (L.getD i p0).v ∧ I64 (L.getD i p0).t := by
  intro i hi
  rw [List.all_eq_true] at h
  have := h (L.getD i p0) (by rw [List.getD_eq_getElem?_getD, List.getElem?_eq_getElem hi]; simp)
  simp only [Bool.and_eq_true, decide_eq_true_eq] at this
  exact ⟨⟨this.1.1.1, this.1.1.2⟩, ⟨this.1.2, this.2⟩⟩

set_option maxHeartbeats 1000000 in
theorem known_any (w : World) : Calls Try.prog 19 #[] w fun e w' => e = .returned (.bool true) ∧ Below w.heap.size w w' := by
  go_enter Try.func19, Try.ntmps19
  go_wp2_with fail
  refine (points_at _ 5 5 [10, 12, 15, 16, 10] _ rfl (ints_of_blk (Blk.new _ _ _) rfl) (by omega)).mono ?_
  rintro e w1 ⟨A, c, rfl, hA, hb1⟩
  have hw1 := hb1.size; try simp only [World.size_alloc] at hw1
  have hbw1 : Below w.heap.size w w1 := by (repeat (first | (with_reducible assumption) | (with_reducible exact Below.refl _ _) | ((with_reducible refine Below.setCell ?_ ?_ _); rotate_left; · (first | omega | (simp; done) | (simp; omega) | (simp at *; omega))) | ((with_reducible refine Below.alloc ?_ ?_ _); rotate_left; · (first | omega | (simp; done) | (simp; omega) | (simp at *; omega))) | (with_reducible refine Below.drew ?_) | (with_reducible refine below_drewN ?_ _) | ((refine Below.trans ?_ (Below.mono (by with_reducible assumption) ?_)); rotate_left; · (first | omega | (simp; done) | (simp; omega) | (simp at *; omega)))))
  clear hb1
  go_wp2_with fail
  refine (run_at _ 5 _ ⟨5, 0⟩ (ptsTo [10, 12, 15, 16, 10] 5) [⟨10, 0⟩, ⟨16, 3⟩, ⟨10, 4⟩] _ rfl hA (by omega) (all_fit (by decide)) ⟨by decide, by decide⟩ ⟨by decide, by decide⟩ (by decide)).mono ?_
  rintro e w2 ⟨A', c', rfl, hA', hb2⟩
  clear hA
  have hw2 := hb2.size; try simp only [World.size_alloc] at hw2
  have hbw2 : Below w.heap.size w w2 := by (repeat (first | (with_reducible assumption) | (with_reducible exact Below.refl _ _) | ((with_reducible refine Below.setCell ?_ ?_ _); rotate_left; · (first | omega | (simp; done) | (simp; omega) | (simp at *; omega))) | ((with_reducible refine Below.alloc ?_ ?_ _); rotate_left; · (first | omega | (simp; done) | (simp; omega) | (simp at *; omega))) | (with_reducible refine Below.drew ?_) | (with_reducible refine below_drewN ?_ _) | ((refine Below.trans ?_ (Below.mono (by with_reducible assumption) ?_)); rotate_left; · (first | omega | (simp; done) | (simp; omega) | (simp at *; omega)))))
  clear hb2
  go_wp2_with fail
  have HB := Lib.hid (Blk.new w2 27 #[.int .i64 10, .int .i64 0, .int .i64 16, .int .i64 3, .int .i64 10, .int .i64 4])
  refine (same_at _ _ 3 3 _ _ [⟨10, 0⟩, ⟨16, 3⟩, ⟨10, 4⟩] [⟨10, 0⟩, ⟨16, 3⟩, ⟨10, 4⟩] _ rfl rfl (hA'.below ((Below.refl w2.heap.size w2).alloc (Nat.le_refl _) _) (Nat.le_refl _)) (points_of_blk HB.out rfl) (by omega) rfl).mono ?_
  rintro e w3 ⟨rfl, hb3⟩
  have hw3 := hb3.size; try simp only [World.size_alloc] at hw3
  go_wp2_with fail
  go_ret
  exact ⟨rfl, by (repeat (first | (with_reducible assumption) | (with_reducible exact Below.refl _ _) | ((with_reducible refine Below.setCell ?_ ?_ _); rotate_left; · (first | omega | (simp; done) | (simp; omega) | (simp at *; omega))) | ((with_reducible refine Below.alloc ?_ ?_ _); rotate_left; · (first | omega | (simp; done) | (simp; omega) | (simp at *; omega))) | (with_reducible refine Below.drew ?_) | (with_reducible refine below_drewN ?_ _) | ((refine Below.trans ?_ (Below.mono (by with_reducible assumption) ?_)); rotate_left; · (first | omega | (simp; done) | (simp; omega) | (simp at *; omega)))))⟩
end Go.Proofs.Ytjidfcogcgaclaa
