/-
  What is proved here: numbers laid in eight bytes each behind others, as package record and the reference lay them (chapter 11). Conditions: each theorem's own.
-/
import Derived.Test.YtognidoohinipaaRecRCheck
import Derived.Test.YtognidoohinipaaKitBytes11
namespace Go.Proofs.Ytognidoohinipaa
open Go.RowKit Go.Deep Go.Joins Go.WideShapes

theorem own_ne_type {Good : Value → Prop} {w : World} {base : Nat} {e t : TypeId} {size n g : Nat} {v : Value} {xs : List Value} {cs : Array Value} (h : OwnG Good w base e size v n xs) (hb : Blk w g t cs) (hne : t ≠ e) : some g ≠ v.ownBlock := by
  intro hv
  rcases h.1.2 with ⟨rfl, _⟩ | ⟨g0, cap, cur, rfl, _, hh, _⟩
  · cases hv
  · have : g = g0 := by injection hv
    subst this
    unfold Blk at hb
    rw [hh] at hb
    injection hb with hb
    injection hb with _ hb
    exact hne hb.symm
/-- of a cell nothing is asked. -/
def Tr (_ : Value) : Prop := True
theorem own_tr {w : World} {base : Nat} {e : TypeId} {size n : Nat} {v : Value} {xs : List Value} (h : w.ownsRow base e size v n xs) : OwnG Tr w base e size v n xs := ⟨h, fun _ _ _ _ _ _ _ => True.intro⟩
theorem tr_all (l : List Value) : ∀ u ∈ l, Tr u := fun _ _ => True.intro
/-- blocks that are known whole, of other types, stay. -/
def Keeps (E : TypeId) (w w' : World) : Prop := ∀ g T cs, T ≠ E → Blk w g T cs → Blk w' g T cs
theorem Keeps.refl (E : TypeId) (w : World) : Keeps E w w := fun _ _ _ _ h => h
theorem Keeps.trans {E : TypeId} {a b c : World} (h : Keeps E a b) (k : Keeps E b c) : Keeps E a c := fun g T cs hT hb => k g T cs hT (h g T cs hT hb)
theorem Keeps.alloc {E : TypeId} {a b : World} (h : Keeps E a b) (o : Obj) : Keeps E a (b.alloc o) := fun g T cs hT hb => (h g T cs hT hb).alloc o
theorem Keeps.below {E : TypeId} {a b : World} (h : Below a.heap.size a b) : Keeps E a b := fun _ _ _ _ hb => hb.below h hb.lt
theorem Keeps.drew {E : TypeId} {a b : World} (h : Keeps E a b) : Keeps E a b.drew := fun g T cs hT hb => (h g T cs hT hb).drew
theorem Keeps.drewN {E : TypeId} {a b : World} (h : Keeps E a b) (n : Nat) : Keeps E a (b.drewN n) := fun g T cs hT hb => (h g T cs hT hb).drewN n
theorem Keeps.grown {Good : Value → Prop} {E : TypeId} {a b : World} {base size n : Nat} {v : Value} {xs : List Value} (h : OwnG Good a base E size v n xs) (hg : a.grownBy b v.ownBlock) : Keeps E a b :=
  fun _ _ _ hT hb => hb.grown hg (own_ne_type h hb hT)
theorem OwnG.slice {Good : Value → Prop} {w : World} {base : Nat} {e : TypeId} {size : Nat} {v : Value} {n : Nat} {xs : List Value} (h : OwnG Good w base e size v n xs) : ∃ A cap, v = .slice A n cap := by
  rcases h.1.2 with ⟨hv, h0⟩ | ⟨g, cap, cur, hv, _⟩
  · exact ⟨none, 0, by rw [hv, h0]⟩
  · exact ⟨_, cap, hv⟩

/-- a number in eight bytes, the highest first. -/
def be8 (v : Int) : List Int := (List.range 8).map fun j => v / 2 ^ (56 - 8 * j) % 256
theorem be8_len (v : Int) : (be8 v).length = 8 := by simp [be8]
theorem be8_get (v : Int) {j : Nat} (h : j < 8) : (be8 v).getD j 0 = v / 2 ^ (56 - 8 * j) % 256 := by simp [be8, h]
theorem be8_snoc (v : Int) {j : Nat} (h : j < 8) : (be8 v).take (j + 1) = (be8 v).take j ++ [v / 2 ^ (56 - 8 * j) % 256] := by
  rw [take_snoc_int _ _ (by rw [be8_len]; exact h), be8_get v h]
def beL (l : List Int) : List Int := l.flatMap be8
theorem beL_snoc (l : List Int) (v : Int) : beL (l ++ [v]) = beL l ++ be8 v := by simp [beL]
theorem beL_len (l : List Int) : (beL l).length = 8 * l.length := by
  induction l with
  | nil => rfl
  | cons a l ih => show (be8 a ++ beL l).length = _; rw [List.length_append, be8_len, ih, List.length_cons]; omega
/-- what numbers laid behind bytes leave. -/
def EightBack (base : Nat) (n : Nat) (L : List Int) (w : World) (e : Ending) (w' : World) : Prop :=
  ∃ A c, e = .returned (.slice A n c) ∧ OwnG Tr w' base 5 1 (.slice A n c) n (L.map (Value.int .u8)) ∧ Below base w w' ∧ Keeps 5 w w'

set_option maxRecDepth 100000 in
set_option maxHeartbeats 1000000 in
theorem eight_any (A : Option Addr) (n c base : Nat) (L l : List Int) (gl cl : Nat) (w : World) (hown : OwnG Tr w base 5 1 (.slice A n c) n (L.map (Value.int .u8))) (hl : Blk w gl 3 (l.map (Value.int .i64)).toArray) (hbase : base ≤ w.heap.size) (hn : n ≤ 1000) (hll : l.length ≤ 100) :
    Calls Try.prog 21 #[.slice A n c, .slice (some ⟨gl, 0, none⟩) l.length cl] w (EightBack base (n + 8 * l.length) (L ++ beL l) w) := by
  have HOW := Lib.hid hown
  have HBL := Lib.hid hl
  obtain ⟨d, hd⟩ : ∃ d, d = l.length := ⟨_, rfl⟩
  have HD := Lib.hid hd.symm
  rw [← hd] at hll ⊢
  obtain ⟨i0, hi0, hz0, hz1, hz2⟩ := info_parts Bytes.infoE
  have HI0 := Lib.hid hi0
  have HZ0 := Lib.hid hz0
  have HZ1 := Lib.hid hz1
  have HZ2 := Lib.hid hz2
  clear hi0 hz0 hz1 hz2 hown hl hd
  go_enter Try.func21, Try.ntmps21
  go_wp2
  go_loopg [0, 10] d (fun g bv iv wr => ∃ (i cc : Nat) (X : Option Addr), i ≤ d ∧ g = d - i ∧ iv = .int .i64 i ∧ bv = .slice X (n + 8 * i) cc ∧ OwnG Tr wr base 5 1 (.slice X (n + 8 * i) cc) (n + 8 * i) ((L ++ beL (l.take i)).map (Value.int .u8)) ∧ Below base w wr ∧ Keeps 5 w wr)
  case atStart => exact ⟨0, c, A, by omega, rfl, rfl, rfl, by simpa [beL] using HOW.out, Below.refl _ _, Keeps.refl _ _⟩
  case round =>
    clear HOW
    obtain ⟨i, cc, X, hi, rfl, rfl, rfl, hown, hbw, hkw⟩ := hrel
    obtain ⟨wy, rfl⟩ : ∃ wq : World, wq = wr := ⟨_, rfl⟩
    have HOW := Lib.hid hown
    have HBW := Lib.hid hbw
    have HKW := Lib.hid hkw
    have hzy := hbw.size
    clear hown
    by_cases hlt : i < d
    · have hii : (i : Int) < (d : Int) := by omega
      have hi0 : (0 : Int) ≤ (i : Int) := by omega
      have hbl := HKW.out gl 3 _ (by decide) HBL.out
      have hcell := hbl.cell i
      have hget : (l.map (Value.int .i64)).toArray[i]? = some (.int .i64 (l.getD i 0)) := by
        rw [← Array.getElem?_toList]
        exact ints_get .i64 l i (by rw [HD.out]; exact hlt)
      rw [hget] at hcell
      have hgl := hbl.lt
      have htk := take_snoc_int l i (by rw [HD.out]; exact hlt)
      obtain ⟨x, hx⟩ : ∃ x, x = l.getD i 0 := ⟨_, rfl⟩
      rw [← hx] at hcell htk
      have HTK := Lib.hid (show L ++ beL (l.take (i + 1)) = (L ++ beL (l.take i)) ++ be8 x by rw [htk, beL_snoc, List.append_assoc])
      obtain ⟨M, hM⟩ : ∃ M, M = L ++ beL (l.take i) := ⟨_, rfl⟩
      rw [← hM] at HOW HTK
      clear hbl hget htk hx hM hbw hkw
      go_wp2
      go_loopg [0, 7] 8 (fun g bv iv wr => ∃ (j cj : Nat) (Y : Option Addr), j ≤ 8 ∧ g = 8 - j ∧ iv = .int .i64 (56 - 8 * (j : Int)) ∧ bv = .slice Y (n + 8 * i + j) cj ∧ OwnG Tr wr base 5 1 (.slice Y (n + 8 * i + j) cj) (n + 8 * i + j) ((M ++ (be8 x).take j).map (Value.int .u8)) ∧ Below base w wr ∧ Keeps 5 w wr)
      case atStart => exact ⟨0, cc, X, by omega, rfl, rfl, rfl, by simpa using HOW.out, HBW.out, HKW.out⟩
      case round =>
        clear HOW HBW HKW hcell hgl hzy
        obtain ⟨j, cj, Y, hj, rfl, rfl, rfl, hown, hbw, hkw⟩ := hrel
        obtain ⟨wz, rfl⟩ : ∃ wq : World, wq = wr := ⟨_, rfl⟩
        have HOW := Lib.hid hown
        have HBW := Lib.hid hbw
        have HKW := Lib.hid hkw
        have hzz : base ≤ wz.heap.size := by have := hbw.size; omega
        clear hown hbw hkw
        by_cases hjl : j < 8
        · have t1 : (0 : Int) ≤ 56 - 8 * (j : Int) := by omega
          have t2 : 56 - 8 * (j : Int) ≤ 64 := by omega
          have k3 : n + 8 * i + j + 1 ≤ maxLen := by unfold maxLen; omega
          have k4 : (n + 8 * i + j + 1) * 1 ≤ 140737488355328 := by omega
          obtain ⟨z, hz⟩ : ∃ z, z = x / 2 ^ (56 - 8 * j) % 256 := ⟨_, rfl⟩
          have hsn := be8_snoc x hjl
          rw [← hz] at hsn
          have HSN := Lib.hid (show M ++ (be8 x).take (j + 1) = (M ++ (be8 x).take j) ++ [z] by rw [hsn, List.append_assoc])
          have HZ := Lib.hid hz
          have HOA := Lib.hid (HOW.out.alloc (.cells #[.int .u8 z] 5))
          have hza : base ≤ (wz.alloc (.cells #[.int .u8 z] 5)).heap.size := by simp; omega
          have HBA := Lib.hid (HBW.out.alloc hzz (.cells #[.int .u8 z] 5))
          have HKA := Lib.hid (HKW.out.alloc (.cells #[.int .u8 z] 5))
          have HN1 := Lib.hid (ints_one .u8 z)
          clear hsn
          rw [hz] at *
          clear hz
          go_wp2_with (at_builtin; refine wpList_append_G _ rfl (.tmp 18) (.tmp 23) 24 rfl Tr base 5 i0 _ 1 1 Try.underlying24 HI0.out HZ0.out HZ1.out HZ2.out rfl (by omega) _ (n + 8 * i + j) _ rfl HOA.out ⟨wz.heap.size, 0, none⟩ 1 1 [.int .u8 (x / 2 ^ (56 - 8 * j) % 256)] rfl rfl (World.news_of_block (cs := #[.int .u8 (x / 2 ^ (56 - 8 * j) % 256)]) (t := 5) (fr := (0, 0)) (heap_alloc_new wz _)) HN1.out.1 k3 k4 hza (tr_all _) (tr_all _) (tr_all _) ?_; intro v3 w3 hown3 hgrow; have hb3 : Below base w w3 := HBA.out.grown hgrow hza (fun q hq => (HOA.out.1.lt q hq).1); have hk3 : Keeps 5 w w3 := HKA.out.trans (Keeps.grown HOA.out hgrow); obtain ⟨A3, k3', rfl⟩ := hown3.slice)
          have HO3 := Lib.hid (show OwnG Tr w3 base 5 1 (.slice A3 (n + 8 * i + j + 1) k3') (n + 8 * i + j + 1) ((M ++ (be8 x).take (j + 1)).map (Value.int .u8)) by rw [HSN.out, List.map_append]; exact hown3)
          clear hown3 hgrow
          go_roundg (8 - (j + 1))
          case measure => omega
          case rel => exact ⟨j + 1, k3', A3, by omega, rfl, by go_num, rfl, HO3.out, hb3, hk3⟩
        · obtain rfl : j = 8 := by omega
          rw [show (be8 x).take 8 = be8 x from List.take_of_length_le (Nat.le_of_eq (be8_len x))] at HOW
          rw [← HTK.out] at HOW
          have t1 : ¬ (0 : Int) ≤ 56 - 8 * ((8 : Nat) : Int) := by omega
          have e8 : n + 8 * i + 8 = n + 8 * (i + 1) := by omega
          rw [e8] at HOW ⊢
          go_wp2_with fail
          go_roundg (d - (i + 1))
          case measure => omega
          case rel => exact ⟨i + 1, cj, Y, by omega, rfl, by go_num, rfl, HOW.out, HBW.out, HKW.out⟩
    · obtain rfl : i = d := by omega
      have hii : ¬ (i : Int) < (i : Int) := by omega
      rw [show l.take i = l by rw [← HD.out, List.take_length]] at HOW
      go_wp2_with fail
      go_ret
      exact ⟨X, cc, rfl, HOW.out, HBW.out, HKW.out⟩
end Go.Proofs.Ytognidoohinipaa
