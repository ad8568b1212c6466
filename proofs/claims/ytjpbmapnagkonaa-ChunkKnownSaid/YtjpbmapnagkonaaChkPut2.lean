/-
  What is proved here: Put of package chunk (chapter 13). Conditions: bytes are bytes.
-/
import Derived.Test.YtjpbmapnagkonaaChkPut
namespace Go.Proofs.Ytjpbmapnagkonaa
open Go.RowKit Go.Deep Go.Joins Go.WideShapes

theorem run_make_cap {P : Program} (t e : TypeId) (i : TypeInfo) (z : Value) (ht : P.underlying t = some (.slice e)) (hi : P.info? e = some i) (hz : i.zero = some z) (hz1 : i.size = 1) (hz2 : i.bytes = 1) (hc : z.cells = #[.int .u8 0])
    (n c : Nat) (hnc : n ≤ c) (h63 : c ≤ 281474976710656) (w : World) :
    (Instr.makeSlice t (.int .i64 (n : Int)) (.int .i64 (c : Int))).run P w = .ok (.slice (some ⟨w.heap.size, 0, none⟩) n c) (w.alloc (.cells (madeCells #[.int .u8 0] c) e)) := by
  have := run_make_rowN (P := P) t e i z ht hi hz .i64 .i64 n c hnc (by rw [hz2]; omega) (by omega) w
  rw [this, hz1, Nat.mul_one, hc]
/-- a row into whose beginning bytes were copied is owned. -/
theorem own_of_splice {w : World} {g base m l : Nat} {cs : Array Value} {L : List Int} (hb : base ≤ g) (h : w.heap[g]? = some (.cells (splice cs.toList 0 (L.map (Value.int .u8))).toArray 5 (0, 0))) (hs : cs.size = m) (hu : ∀ u ∈ cs.toList, IsIntK .u8 u) (hl : L.length = l) (hlm : l ≤ m) (hm : m ≤ 281474976710656) :
    OwnG (IsIntK .u8) w base 5 1 (.slice (some ⟨g, 0, none⟩) l m) l (L.map (Value.int .u8)) := by
  subst hl
  have e : splice cs.toList 0 (L.map (Value.int .u8)) = L.map (Value.int .u8) ++ cs.toList.drop L.length := by simp [splice]
  rw [e] at h
  refine ⟨⟨by simp, .inr ⟨g, m, _, rfl, hb, h, hlm, by unfold maxLen; omega, by simp; omega, by simp⟩⟩, fun g' c' cur' hv hg => ?_⟩
  cases hv
  rw [h] at hg
  cases hg
  intro u hu'
  simp only [List.mem_append] at hu'
  rcases hu' with hu' | hu'
  · exact ints_all .u8 L u hu'
  · exact hu u (List.mem_of_mem_drop hu')

theorem ints_news {k : IntKind} {w : World} {A : Option Addr} {L : List Int} (h : IntsAt k w A L) : ∀ ad, A = some ad → ∀ j u, (L.map (Value.int k))[j]? = some u → w.cell? (ad.add j) = some u := by
  intro ad e j u hu
  have hj : j < L.length := by
    have := (List.getElem?_eq_some_iff.1 hu).1
    simpa using this
  obtain ⟨b, off, e', _, hc⟩ := h (by omega)
  rw [e] at e'
  cases e'
  rw [ints_get k L j hj] at hu
  cases hu
  rw [Addr.add_lit]
  exact hc j hj
theorem putBack_nil {n : Int} {w w' : World} {e : Ending} (he : e = .returned (.tuple #[.slice none 0 0, .int .i64 n])) (hb : Below w.heap.size w w') : PutBack [] 0 n w e w' :=
  ⟨none, 0, he, rfl, OwnG.nil_ _ _ _ _, hb⟩

set_option maxHeartbeats 1000000 in
theorem put_long (A : Option Addr) (cap n : Nat) (w : World) (hn : 1024 < n) (hn2 : n ≤ 140737488351232) :
    Calls Try.prog 11 #[.slice A n cap] w (PutBack [] 0 2 w) := by
  have t1 : (1024 : Int) < (n : Int) := by omega
  go_enter Try.func11, Try.ntmps11
  go_wp2_with fail
  refine bodyPost_ret (v := .tuple #[.slice none 0 0, .int .i64 2]) ?_ rfl (putBack_nil rfl (by (repeat (first | (with_reducible assumption) | (with_reducible exact Below.refl _ _) | ((with_reducible refine Below.setCell ?_ ?_ _); rotate_left; · (first | omega | (simp; done) | (simp; omega) | (simp at *; omega))) | ((with_reducible refine Below.alloc ?_ ?_ _); rotate_left; · (first | omega | (simp; done) | (simp; omega) | (simp at *; omega))) | (with_reducible refine Below.drew ?_) | (with_reducible refine below_drewN ?_ _) | ((refine Below.trans ?_ (Below.mono (by with_reducible assumption) ?_)); rotate_left; · (first | omega | (simp; done) | (simp; omega) | (simp at *; omega)))))))
  simp [results, Try.results11, go_sem]

set_option maxHeartbeats 2000000 in
theorem put_any (A : Option Addr) (cap n : Nat) (L : List Int) (w : World) (hln : L.length = n) (hA : IntsAt .u8 w A L) (hcap : A = none → cap = 0) (hL : ∀ x ∈ L, U8 x) (hn : n ≤ 1024) :
    Calls Try.prog 11 #[.slice A n cap] w (PutBack (putL L) (6 + n) 0 w) := by
  have HA := Lib.hid hA
  have HL := Lib.hid hL
  have HN := Lib.hid hln
  have HC := Lib.hid hcap
  have hin := sumL_in hL (by omega)
  obtain ⟨s, hs⟩ : ∃ s, s = sumL L := ⟨_, rfl⟩
  have HS := Lib.hid hs.symm
  have HP := Lib.hid (show putL L = headL n ++ tailL s ++ L by unfold putL; rw [hln, hs])
  rw [← hs] at hin
  obtain ⟨s1, s2⟩ := hin
  clear hA hL hln hcap hs
  obtain ⟨i0, hi0, hz0, hz1, hz2⟩ := info_parts Bytes.infoE
  have hmk := fun W => run_make_cap 22 5 i0 _ Try.underlying22 hi0 hz0 hz1 hz2 rfl 6 (6 + n) (by omega) (by omega) W
  have HI0 := Lib.hid hi0
  have HZ0 := Lib.hid hz0
  have HZ1 := Lib.hid hz1
  have HZ2 := Lib.hid hz2
  have ec : ((6 + n : Nat) : Int) = 6 + (n : Int) := by omega
  have ec6 : ((6 : Nat) : Int) = 6 := rfl
  rw [ec, ec6] at hmk
  clear ec ec6 hi0 hz0 hz1 hz2
  have HMK := Lib.hid hmk
  clear hmk
  have t1 : ¬ (1024 : Int) < (n : Int) := by omega
  have e1 : (n : Int) / 256 ≤ 255 := by omega
  have e2 : 0 ≤ (n : Int) / 256 := by omega
  have e3 : 0 ≤ s / 16777216 := by omega
  have e4 : s / 16777216 ≤ 255 := by omega
  go_enter Try.func11, Try.ntmps11
  go_wp2_with fail
  refine (sum_at A n cap L _ HN.out HA.out HL.out (by omega)).mono ?_
  rw [HS.out]
  rintro e w1 ⟨rfl, hb1⟩
  have B1 := Lib.hid hb1
  clear hb1
  have hmk := HMK.out
  go_upto_region 5 with fail
  clear hmk HMK
  obtain ⟨wx, hwx⟩ : ∃ wx : World, wx = w1.alloc (.cells (madeCells #[.int .u8 0] (6 + n)) 5) := ⟨_, rfl⟩
  rw [← hwx]
  have hrow : IRow .u8 5 wx w1.heap.size (6 + n) [] := by rw [hwx]; exact IRow.made .u8 5 w1 (6 + n)
  have hbx : Below w.heap.size w wx := by rw [hwx]; exact B1.out.alloc B1.out.size _
  have hgx : w.heap.size ≤ w1.heap.size := B1.out.size
  obtain ⟨g, hg⟩ : ∃ g, g = w1.heap.size := ⟨_, rfl⟩
  rw [← hg] at hrow hgx ⊢
  clear hwx hg
  obtain ⟨cs, hblk, hcs, _, _, hu⟩ := hrow
  have HBK := Lib.hid hblk
  have HCS := Lib.hid hcs
  have HUU := Lib.hid hu
  have HBX := Lib.hid hbx
  have hgl := hblk.lt
  clear hblk hcs hu hbx B1
  have k1 : cs.size = 6 + n := HCS.out
  have hbel : Below w.heap.size w (wx.alloc (.cells #[.int .u8 ((n : Int) / 256), .int .u8 ((n : Int) % 256), .int .u8 (s / 16777216), .int .u8 (s / 65536 % 256), .int .u8 (s / 256 % 256), .int .u8 (s % 256)] 5)) := HBX.out.alloc HBX.out.size _
  have hrows : ∀ j v, ((headL n ++ tailL s).map (Value.int .u8))[j]? = some v → (wx.alloc (.cells #[.int .u8 ((n : Int) / 256), .int .u8 ((n : Int) % 256), .int .u8 (s / 16777216), .int .u8 (s / 65536 % 256), .int .u8 (s / 256 % 256), .int .u8 (s % 256)] 5)).cell? ((⟨wx.heap.size, 0, none⟩ : Addr).add j) = some v := World.news_of_block (cs := #[.int .u8 ((n : Int) / 256), .int .u8 ((n : Int) % 256), .int .u8 (s / 16777216), .int .u8 (s / 65536 % 256), .int .u8 (s / 256 % 256), .int .u8 (s % 256)]) (t := 5) (fr := (0, 0)) (heap_alloc_new wx _)
  have HRO := Lib.hid hrows
  have HBE := Lib.hid hbel
  have hfit : 0 + ((headL n ++ tailL s).map (Value.int .u8)).length ≤ cs.toList.length := by simp [headL, tailL, k1]
  have HFT := Lib.hid hfit
  have hgg : (wx.alloc (.cells #[.int .u8 ((n : Int) / 256), .int .u8 ((n : Int) % 256), .int .u8 (s / 16777216), .int .u8 (s / 65536 % 256), .int .u8 (s / 256 % 256), .int .u8 (s % 256)] 5)).heap[g]? = some (.cells cs.toList.toArray 5 (0, 0)) := by
    rw [Array.toArray_toList]; exact HBK.out.alloc _
  have HGG := Lib.hid hgg
  clear hgg
  clear k1 hrows hbel hfit
  go_upto_region 6 with (with_reducible refine wpList_copy_splice rfl (.tmp 15) (.tmp 34) 22 22 rfl 5 Try.underlying22 (by rw [HI0.out]; simp [HZ1.out]) (some ⟨g, 0, none⟩) (some ⟨wx.heap.size, 0, none⟩) 6 (6 + n) 6 6 rfl rfl g 0 cs.toList 5 HGG.out ((headL n ++ tailL s).map (Value.int .u8)) rfl (fun _ => ⟨rfl, _, rfl, HRO.out⟩) HFT.out (ints_oneCell .u8 _) w.heap.size w HBE.out hgx ?_; intro w3 hw3 hb3)
  have hown := own_of_splice hgx hw3.out HCS.out HUU.out (show (headL n ++ tailL s).length = 6 from rfl) (by omega) (by omega)
  have HOW := Lib.hid hown
  have hz3 := hb3.size
  have hnn : A = none → n = 0 ∧ cap = 0 := fun e => ⟨by
    by_cases h0 : 0 < L.length
    · obtain ⟨b, off, e', _, _⟩ := HA.out h0
      rw [e] at e'; cases e'
    · have := HN.out; omega, HC.out e⟩
  have HNN := Lib.hid hnn
  have HNW := Lib.hid (ints_news (HA.out.below hb3 (Nat.le_refl _)))
  have k3 : 6 + n ≤ maxLen := by unfold maxLen; omega
  have k4 : (6 + n) * 1 ≤ 140737488355328 := by omega
  have k8 : (L.map (Value.int .u8)).length = n * 1 := by rw [List.length_map, HN.out]; omega
  have K8 := Lib.hid k8
  have HZI := Lib.hid (zero_intK .u8)
  clear hw3 hown hnn HBK HCS HUU HBX hgl HRO HBE HFT HGG k8
  go_wp2_with (at_builtin; refine wpList_append_G_any _ rfl (.tmp 36) (.tmp 37) 22 rfl (IsIntK .u8) w.heap.size 5 i0 _ 1 1 Try.underlying22 HI0.out HZ0.out HZ1.out HZ2.out rfl (by omega) _ 6 _ rfl HOW.out A n cap (L.map (Value.int .u8)) rfl K8.out HNN.out HNW.out (ints_oneCell .u8 _) k3 k4 hz3 HZI.out (ints_all .u8 _) (ints_all .u8 _) ?_; intro v' w4 hown4 hgrow; have hb4 : Below w.heap.size w w4 := hb3.grown hgrow hz3 (fun q hq => (HOW.out.1.lt q hq).1); obtain ⟨A', cap', rfl⟩ := hown4.slice)
  refine bodyPost_ret (v := .tuple #[.slice A' (6 + n) cap', .int .i64 0]) ?_ rfl ⟨A', cap', rfl, by rw [putL_len, HN.out], by rw [HP.out, List.map_append]; exact hown4, hb4⟩
  simp [results, Try.results11, go_sem]
end Go.Proofs.Ytjpbmapnagkonaa
