/-
  What is proved here: the law SenderKnown returns true. Conditions: none (it takes no input).
-/
import Derived.Test.YtihgcdggffidlaaSenderRuns
import Derived.Test.YtihgcdggffidlaaSenderWindow
import Derived.Test.YtihgcdggffidlaaSenderComes
namespace Go.Proofs.Ytihgcdggffidlaa
namespace SenderKnown
open Go.ChangeShapes Go.WideShapes Go.ChangeAt Go.RowKit Go.Deep

def ocells (o : Op) : List Value := [.int .i64 o.kind, .int .i64 o.now, .int .i64 o.next, .int .i64 o.ep]
theorem ocells_at (L : List Op) : ∀ (i : Nat), i < L.length → (L.flatMap ocells)[i * 4]? = some (.int .i64 (L.getD i o0).kind) ∧ (L.flatMap ocells)[i * 4 + 1]? = some (.int .i64 (L.getD i o0).now) ∧ (L.flatMap ocells)[i * 4 + 2]? = some (.int .i64 (L.getD i o0).next) ∧ (L.flatMap ocells)[i * 4 + 3]? = some (.int .i64 (L.getD i o0).ep) := by
  induction L with
  | nil => intro i hi; simp at hi
  | cons a l ih =>
    intro i hi
    rw [List.flatMap_cons]
    cases i with
    | zero => simp [ocells]
    | succ i =>
      obtain ⟨h1, h2, h3, h4⟩ := ih i (by simpa using hi)
      have hl : (ocells a).length = 4 := rfl
      refine ⟨?_, ?_, ?_, ?_⟩
      · rw [List.getElem?_append_right (by rw [hl]; omega), hl, show (i + 1) * 4 - 4 = i * 4 by omega]; simpa using h1
      · rw [List.getElem?_append_right (by rw [hl]; omega), hl, show (i + 1) * 4 + 1 - 4 = i * 4 + 1 by omega]; simpa using h2
      · rw [List.getElem?_append_right (by rw [hl]; omega), hl, show (i + 1) * 4 + 2 - 4 = i * 4 + 2 by omega]; simpa using h3
      · rw [List.getElem?_append_right (by rw [hl]; omega), hl, show (i + 1) * 4 + 3 - 4 = i * 4 + 3 by omega]; simpa using h4
theorem ops_of_blk {w : World} {g : Nat} {t : TypeId} {cs : Array Value} {L : List Op} (h : Blk w g t cs) (e : cs.toList = L.flatMap ocells) : OpsAt w (some ⟨g, 0, none⟩) L := by
  intro _
  refine ⟨g, 0, rfl, h.lt, fun i hi => ?_⟩
  obtain ⟨c0, c1, c2, c3⟩ := ocells_at L i hi
  rw [← e, Array.getElem?_toList] at c0 c1 c2 c3
  simp only [Nat.zero_add]
  exact ⟨(h.cell _).trans c0, (h.cell _).trans c1, (h.cell _).trans c2, (h.cell _).trans c3⟩
theorem OpsAt.below {w w' : World} {B : Nat} {A : Option Addr} {L : List Op} (h : OpsAt w A L) (hb : Below B w w') (hB : w.heap.size ≤ B) : OpsAt w' A L := by
  intro hp
  obtain ⟨b, off, e, hlt, hc⟩ := h hp
  refine ⟨b, off, e, Nat.lt_of_lt_of_le hlt hb.size, fun i hi => ?_⟩
  obtain ⟨c0, c1, c2, c3⟩ := hc i hi
  have hl := Nat.lt_of_lt_of_le hlt hB
  exact ⟨(hb.cell (p := ⟨b, off + i * 4, none⟩) hl).trans c0, (hb.cell (p := ⟨b, off + i * 4 + 1, none⟩) hl).trans c1, (hb.cell (p := ⟨b, off + i * 4 + 2, none⟩) hl).trans c2, (hb.cell (p := ⟨b, off + i * 4 + 3, none⟩) hl).trans c3⟩
def Fit (L : List Op) : Prop := ∀ i, i < L.length → (I64 (L.getD i o0).now ∧ I64 (L.getD i o0).next)

theorem runs_yes (a b c d : Int) (A : Option Addr) (n cap : Nat) (L : List Op) (w : World) (hn : L.length = n) (hA : OpsAt w A L) (hL : Fit L) :
    Calls Try.prog 3 #[.int .i64 a, .int .i64 b, .int .i64 c, .int .i64 d, .slice A n cap] w fun e w' => e = .returned (.bool true) ∧ Below w.heap.size w w' := by
  subst hn
  exact SenderRuns.walk a b c d A cap L w hA hL
theorem window_yes (a b c d : Int) (A : Option Addr) (n cap : Nat) (L : List Op) (w : World) (hn : L.length = n) (hA : OpsAt w A L) (hL : Fit L) :
    Calls Try.prog 4 #[.int .i64 a, .int .i64 b, .int .i64 c, .int .i64 d, .slice A n cap] w fun e w' => e = .returned (.bool true) ∧ Below w.heap.size w w' := by
  subst hn
  exact SenderWindow.walk a b c d A cap L w hA hL
theorem comes_yes (a b c d e0 : Int) (A : Option Addr) (n cap : Nat) (L : List Int) (w : World) (hn : L.length = n) (hA : IntsAt .u8 w A L) (hL : ∀ x ∈ L, (Lit.int .u8 x).wf = true) :
    Calls Try.prog 5 #[.int .i64 a, .int .i64 b, .int .i64 c, .int .i64 d, .int .i64 e0, .slice A n cap] w fun e w' => e = .returned (.bool true) ∧ Below w.heap.size w w' := by
  subst hn
  exact SenderComes.walk a b c d e0 A cap L w hA hL

def known : List Op := [⟨0, 10, 5, 0⟩, ⟨0, 12, 5, 0⟩, ⟨1, 12, 1, 1⟩, ⟨0, 12, 5, 0⟩, ⟨1, 13, 4, 2⟩, ⟨1, 13, 6, 1⟩, ⟨1, 13, 1, 1⟩, ⟨0, 16, 5, 0⟩, ⟨0, 17, 5, 0⟩, ⟨1, 17, 4, 1⟩, ⟨0, 17, 5, 0⟩, ⟨0, 17, 9, 0⟩, ⟨0, 40, 5, 0⟩, ⟨1, 41, 9, 1⟩, ⟨0, 41, 12, 0⟩, ⟨1, 42, 11, 1⟩, ⟨2, 0, 0, 0⟩]
def nums : List Int := [-9223372036854775808, -1, 0, 1, 2, 15, 16, 17, 1048575, 1048576, 1048577, 1099511627775, 1099511627776, 1099511627777, 9223372036854775807]
def mixed (p q : Int) : List Op := [⟨0, p, q, 0⟩, ⟨0, 5, 4, 0⟩, ⟨0, p, q, 0⟩, ⟨1, p, q, 1⟩, ⟨1, q, 3, p⟩, ⟨0, q, 9, 0⟩, ⟨0, p, 9, 0⟩]
theorem fit_all {L : List Op} (h : ∀ o ∈ L, I64 o.now ∧ I64 o.next) : Fit L := by
  intro i hi
  exact h _ (by rw [List.getD_eq_getElem?_getD, List.getElem?_eq_getElem hi]; simp)
theorem fit_known : Fit known := by
  apply fit_all
  intro o ho
  simp [known] at ho
  rcases ho with h | h | h | h | h | h | h | h | h | h | h | h | h | h | h | h | h <;> subst h <;> exact ⟨⟨by decide, by decide⟩, ⟨by decide, by decide⟩⟩
theorem fit_mixed {p q : Int} (hp : I64 p) (hq : I64 q) : Fit (mixed p q) := by
  apply fit_all
  intro o ho
  simp [mixed] at ho
  rcases ho with h | h | h | h | h | h | h <;> subst h <;> refine ⟨?_, ?_⟩ <;> first | exact hp | exact hq | (unfold I64; dsimp only; omega)
theorem nums_fit : ∀ i, i < 15 → I64 (nums.getD i 0) := by
  intro i hi
  have h : (nums.all fun x => decide (-9223372036854775808 ≤ x) && decide (x ≤ 9223372036854775807)) = true := by decide
  rw [List.all_eq_true] at h
  have hl : i < nums.length := hi
  have := h (nums.getD i 0) (by rw [List.getD_eq_getElem?_getD, List.getElem?_eq_getElem hl]; exact List.getElem_mem _)
  simp only [Bool.and_eq_true, decide_eq_true_eq] at this
  exact this
theorem bytes_ok {L : List Int} (h : (L.all fun x => (Lit.int .u8 x).wf) = true) : ∀ x ∈ L, (Lit.int .u8 x).wf = true := by
  rw [List.all_eq_true] at h; exact h

/-- what the walk holds on to. -/
def Hold (w wr : World) : Prop := OpsAt wr (some ⟨w.heap.size, 0, none⟩) known ∧ IntsAt .i64 wr (some ⟨w.heap.size + 1, 0, none⟩) nums ∧ Below w.heap.size w wr
theorem Hold.below {w wr w' : World} (h : Hold w wr) (hb : Below wr.heap.size wr w') : Hold w w' := ⟨OpsAt.below h.1 hb (Nat.le_refl _), IntsAt.below h.2.1 hb (Nat.le_refl _), h.2.2.trans (hb.mono h.2.2.size)⟩

theorem alloc_cell {w : World} {g o : Nat} {x : Value} (ob : Obj) (h : w.cell? ⟨g, o, none⟩ = some x) : (w.alloc ob).cell? ⟨g, o, none⟩ = some x :=
  (((Below.refl w.heap.size w).alloc (Nat.le_refl _) ob).cell (p := ⟨g, o, none⟩) (World.block_lt_of_cell? _ _ h)).trans h
theorem blk_second (w : World) (o : Obj) (t : TypeId) (cs : Array Value) : Blk ((w.alloc o).alloc (.cells cs t)) (w.heap.size + 1) t cs := by
  have h := Blk.new (w.alloc o) t cs
  rwa [World.size_alloc] at h

set_option maxRecDepth 100000 in
set_option maxHeartbeats 20000000 in
theorem walk (w : World) :
    Calls Try.prog 6 #[] w fun e w' => e = .returned (.bool true) ∧ Below w.heap.size w w' := by
  go_enter Try.func6, Try.ntmps6
  go_wp2_with fail
  go_loopg [3] 15 (fun gm i wr => ∃ k : Nat, k ≤ 15 ∧ gm = 15 - k ∧ i = .int .i64 k ∧ Hold w wr)
  case atStart =>
    refine ⟨0, Nat.zero_le _, rfl, rfl, ops_of_blk ((Blk.new _ _ _).alloc _) rfl, ints_of_blk (blk_second _ _ _ _) rfl, by (repeat (first | (with_reducible assumption) | (with_reducible exact Below.refl _ _) | ((with_reducible refine Below.setCell ?_ ?_ _); rotate_left; · (first | omega | (simp; done) | (simp; omega) | (simp at *; omega))) | ((with_reducible refine Below.alloc ?_ ?_ _); rotate_left; · (first | omega | (simp; done) | (simp; omega) | (simp at *; omega))) | (with_reducible refine Below.drew ?_) | (with_reducible refine below_drewN ?_ _) | ((refine Below.trans ?_ (Below.mono (by with_reducible assumption) ?_)); rotate_left; · (first | omega | (simp; done) | (simp; omega) | (simp at *; omega)))))⟩
  case round =>
    obtain ⟨k, hk, rfl, rfl, hH⟩ := hrel
    obtain ⟨wz, rfl⟩ : ∃ wq : World, wq = wr := ⟨_, rfl⟩
    have HH := Lib.hid hH
    clear hH
    by_cases hlt : k < 15
    · have hki : (k : Int) < 15 := by omega
      have hk0 : (0 : Int) ≤ (k : Int) := by omega
      go_wp2_with fail
      go_loopg [4] 15 (fun gm i wr => ∃ j : Nat, j ≤ 15 ∧ gm = 15 - j ∧ i = .int .i64 j ∧ Hold w wr)
      case atStart => exact ⟨0, Nat.zero_le _, rfl, rfl, HH.out⟩
      case round =>
        clear HH
        obtain ⟨j, hj, rfl, rfl, hH⟩ := hrel
        obtain ⟨wv, rfl⟩ : ∃ wq : World, wq = wr := ⟨_, rfl⟩
        by_cases hjl : j < 15
        · have hji : (j : Int) < 15 := by omega
          have hj0 : (0 : Int) ≤ (j : Int) := by omega
          obtain ⟨nb, no, hne, hnb, hN⟩ := hH.2.1 (by decide)
          injection hne with hne
          injection hne with e1 e2
          subst e1 e2
          obtain ⟨p, hp⟩ : ∃ p, p = nums.getD k 0 := ⟨_, rfl⟩
          obtain ⟨q, hq⟩ : ∃ q, q = nums.getD j 0 := ⟨_, rfl⟩
          have np := hN k hlt
          have nq' := hN j hjl
          rw [← hp] at np
          rw [← hq] at nq'
          simp only [Nat.zero_add] at np nq'
          have HFM := Lib.hid (fit_mixed (p := p) (q := q) (by rw [hp]; exact nums_fit k hlt) (by rw [hq]; exact nums_fit j hjl))
          have HH := Lib.hid hH
          clear hN hp hq hH
          go_upto_region 9 with fail
          go_cut [5] (fun s5 wx => ∃ g, s5 = .slice (some ⟨g, 0, none⟩) 7 7 ∧ OpsAt wx (some ⟨g, 0, none⟩) (mixed p q) ∧ Below wv.heap.size wv wx)
          case first =>
            go_region_held3 (fun w' => w'.cell? ⟨w.heap.size + 1, k, none⟩ = some (.int .i64 p) ∧ w'.cell? ⟨w.heap.size + 1, j, none⟩ = some (.int .i64 q))
              (first | exact ⟨np, nq'⟩ | exact ⟨alloc_cell _ np, alloc_cell _ nq'⟩)
              ((fail))
            go_wp2_with fail
            go_meet
            exact ⟨_, rfl, ops_of_blk (Blk.new _ _ _) rfl, by (repeat (first | (with_reducible assumption) | (with_reducible exact Below.refl _ _) | ((with_reducible refine Below.setCell ?_ ?_ _); rotate_left; · (first | omega | (simp; done) | (simp; omega) | (simp at *; omega))) | ((with_reducible refine Below.alloc ?_ ?_ _); rotate_left; · (first | omega | (simp; done) | (simp; omega) | (simp at *; omega))) | (with_reducible refine Below.drew ?_) | (with_reducible refine below_drewN ?_ _) | ((refine Below.trans ?_ (Below.mono (by with_reducible assumption) ?_)); rotate_left; · (first | omega | (simp; done) | (simp; omega) | (simp at *; omega)))))⟩
          case rest =>
            obtain ⟨g, rfl, hM, hbx⟩ := hcut
            obtain ⟨wx, rfl⟩ : ∃ wq : World, wq = wc := ⟨_, rfl⟩
            have hlv := World.block_lt_of_cell? _ _ np
            have np2 := (hbx.cell (p := ⟨w.heap.size + 1, k, none⟩) hlv).trans np
            have nq2 := (hbx.cell (p := ⟨w.heap.size + 1, j, none⟩) hlv).trans nq'
            have hlx : w.heap.size + 1 < wx.heap.size := Nat.lt_of_lt_of_le hlv hbx.size
            have HH2 := Lib.hid (HH.out.below hbx)
            have HM := Lib.hid hM
            have HKN := Lib.hid (show OpsAt wx (some ⟨w.heap.size, 0, none⟩) known from HH2.out.1)
            clear hM hbx HH np nq'
            have hl7 : (mixed p q).length = 7 := rfl
            have hl17 : known.length = 17 := rfl
            have HL7 := Lib.hid hl7
            have HL17 := Lib.hid hl17
            clear hl7 hl17
            go_upto_region 10 with fail
            go_cut [126] (fun s126 wy => s126 = .bool false ∧ Below wx.heap.size wx wy)
            case first =>
              go_region_held3 (fun w' => w'.cell? ⟨w.heap.size + 1, k, none⟩ = some (.int .i64 p) ∧ w'.cell? ⟨w.heap.size + 1, j, none⟩ = some (.int .i64 q) ∧ Below wx.heap.size wx w')
                (first
                  | exact ⟨np2, nq2, (Below.refl _ _).drew⟩
                  | (go_split_ands; refine ⟨(hb.cell (p := ⟨w.heap.size + 1, k, none⟩) (Nat.lt_of_lt_of_le hlx (Below.size (by assumption)))).trans (by assumption), (hb.cell (p := ⟨w.heap.size + 1, j, none⟩) (Nat.lt_of_lt_of_le hlx (Below.size (by assumption)))).trans (by assumption), Below.trans (by assumption) (hb.mono (Below.size (by assumption)))⟩))
                (first
                  | (go_at_call 3; (try go_split_ands); (with_reducible refine (runs_yes _ _ _ _ _ 7 _ (mixed p q) _ HL7.out (OpsAt.below (B := wx.heap.size) HM.out (by first | exact hk | exact (Below.refl _ _).drew) (Nat.le_refl _)) HFM.out).mono ?_); rintro e w' ⟨rfl, hb⟩; have hk : Below wx.heap.size wx w' := (by first | exact hk.trans (hb.mono hk.size) | exact (Below.refl _ _).drew.trans hb))
                  | (go_at_call 3; (try go_split_ands); (with_reducible refine (runs_yes _ _ _ _ _ 17 _ known _ HL17.out (OpsAt.below (B := wx.heap.size) HKN.out (by first | exact hk | exact (Below.refl _ _).drew) (Nat.le_refl _)) fit_known).mono ?_); rintro e w' ⟨rfl, hb⟩; have hk : Below wx.heap.size wx w' := (by first | exact hk.trans (hb.mono hk.size) | exact (Below.refl _ _).drew.trans hb))
                  | (go_at_call 4; (try go_split_ands); (with_reducible refine (window_yes _ _ _ _ _ 7 _ (mixed p q) _ HL7.out (OpsAt.below (B := wx.heap.size) HM.out (by first | exact hk | exact (Below.refl _ _).drew) (Nat.le_refl _)) HFM.out).mono ?_); rintro e w' ⟨rfl, hb⟩; have hk : Below wx.heap.size wx w' := (by first | exact hk.trans (hb.mono hk.size) | exact (Below.refl _ _).drew.trans hb)))
              go_wp2_with fail
              go_meet
              go_split_ands
              exact ⟨rfl, by assumption⟩
            case rest =>
              obtain ⟨rfl, hby⟩ := hcut
              have HH3 := Lib.hid (HH2.out.below hby)
              clear hby HH2
              go_wp2_with fail
              go_roundg (15 - (j + 1))
              case measure => omega
              case rel => exact ⟨j + 1, by omega, rfl, by go_num, HH3.out⟩
        · obtain rfl : j = 15 := by omega
          have HH := Lib.hid hH
          clear hH
          go_wp2_with fail
          go_roundg (15 - (k + 1))
          case measure => omega
          case rel => exact ⟨k + 1, by omega, rfl, by go_num, HH.out⟩
    · obtain rfl : k = 15 := by omega
      go_wp2_with fail
      refine (runs_yes 3 5 1 0 _ 17 _ known _ rfl HH.out.1 fit_known).mono ?_
      rintro e w1 ⟨rfl, hb1⟩
      have H1 := Lib.hid (HH.out.below hb1)
      clear hb1 HH
      go_wp2_with fail
      refine (window_yes 3 5 1 0 _ 17 _ known _ rfl H1.out.1 fit_known).mono ?_
      rintro e w2 ⟨rfl, hb2⟩
      have H2 := Lib.hid (H1.out.below hb2)
      clear hb2 H1
      go_wp2_with fail
      refine (comes_yes 3 5 9 20 0 _ 6 _ [255, 1, 128, 0, 2, 130] _ rfl (ints_of_blk (Blk.new _ _ _) rfl) (bytes_ok (by decide))).mono ?_
      rintro e w3 ⟨rfl, hb3⟩
      have H3 := Lib.hid (H2.out.below (((Below.refl _ _).alloc (Nat.le_refl _) _).trans (hb3.mono (by simp))))
      clear hb3 H2
      go_wp2_with fail
      refine (comes_yes 3 5 9 20 17 _ 3 _ [255, 1, 128] _ rfl (ints_of_blk (Blk.new _ _ _) rfl) (bytes_ok (by decide))).mono ?_
      rintro e w4 ⟨rfl, hb4⟩
      have H4 := Lib.hid (H3.out.below (((Below.refl _ _).alloc (Nat.le_refl _) _).trans (hb4.mono (by simp))))
      clear hb4 H3
      go_wp2_with fail
      refine (comes_yes 3 5 9 20 20 none 0 0 [] _ rfl (IntsAt.nil_ _ _ _) (fun x hx => absurd hx (by simp))).mono ?_
      rintro e w5 ⟨rfl, hb5⟩
      have H5 := Lib.hid (H4.out.below hb5)
      clear hb5 H4
      go_wp2_with fail
      refine (works_any _).mono ?_
      rintro e w6 ⟨rfl, hb6⟩
      have H6 := Lib.hid (H5.out.below hb6)
      go_wp2_with fail
      go_ret
      exact ⟨rfl, H6.out.2.2⟩

theorem own : ownKnob Try.prog.godebug = none := by kernel_rfl

set_option maxRecDepth 100000 in
theorem lifted (os : Os) (started : os.Started) (H : Type) (enc : TypeId × Value → H) :
    ReturnsInHanded {} Try.checked os 6 .any (Rows.senderKnownSpec.pre6 enc Try.prog Try.f6 Rows.senderKnownRow.domain false) (Rows.senderKnownSpec.post enc Try.prog Try.f6 false true false false) := by
  refine law_lifted (C := Try.checked) (tb := 4) own started (by kernel_rfl) Try.func6
    (ChangeSpec.witness6 (enc := enc) (C := Try.checked) false ⟨#[], #[], []⟩ 8 (by kernel_rfl) (by kernel_rfl) (by kernel_rfl) (by kernel_rfl))
    rfl (by kernel_rfl) (by kernel_rfl) (by kernel_rfl) Try.underlying4 (fun ds h => ?_) ?_
  · rw [show Try.f6.params = #[] from Try.params6] at h
    match ds, h with
    | [], _ => rfl
  · intro W base args ds before _ hA _ _
    obtain ⟨rfl, rfl, rfl⟩ := trodAll_none (show DataW.TrodAll enc Try.prog W 0 (fun _ => true) true [] args.toList ds before from hA)
    exact walk W

theorem proved : Rows.SenderKnownSaid :=
  OpenClaim.holds_of_wide 6 Try.f6 rfl rfl rfl rfl rfl rfl rfl ⟨rfl, rfl, rfl, rfl, rfl⟩ rfl rfl rfl rfl rfl (by kernel_rfl) Try.func6 (by kernel_rfl)
    (of_decide_eq_true (by kernel_rfl)) (by unfold Func.isWrapper; rw [if_neg (of_decide_eq_false (by kernel_rfl))]; exact ⟨rfl, rfl⟩)
    (fun os started H enc _ => lifted os started H enc)
#print axioms proved
end SenderKnown
end Go.Proofs.Ytihgcdggffidlaa
