/-
  What is proved here: Put of package chunk's reference (chapter 13). Conditions: bytes are bytes.
-/
import Derived.Test.YtjpbmapnagkonaaChkPut2
namespace Go.Proofs.Ytjpbmapnagkonaa
open Go.RowKit Go.Deep Go.Joins Go.WideShapes

theorem own_of_blk {k : IntKind} {E : TypeId} {w : World} {g base n : Nat} {cs : Array Value} {L : List Int} (h : Blk w g E cs) (hb : base ≤ g) (e : cs.toList = L.map (Value.int k)) (hn : L.length = n) (hm : n ≤ 281474976710656) :
    OwnG (IsIntK k) w base E 1 (.slice (some ⟨g, 0, none⟩) n n) n (L.map (Value.int k)) := by
  subst hn
  have hl : cs.size = L.length := by rw [← Array.length_toList, e, List.length_map]
  refine ⟨⟨by simp, .inr ⟨g, _, cs, rfl, hb, h, Nat.le_refl _, by unfold maxLen; omega, by omega, by rw [e]; exact List.take_of_length_le (by simp)⟩⟩, fun g' c' cur' hv hg => ?_⟩
  cases hv
  rw [show w.heap[g]? = some (.cells cs E (0, 0)) from h] at hg
  cases hg
  rw [e]
  exact ints_all k L
theorem rcrc_at (A : Option Addr) (n cap : Nat) (L : List Int) (w : World) (hn : L.length = n) (hA : IntsAt .u8 w A L) (hL : ∀ x ∈ L, U8 x) (hl : n ≤ 140737488351232) :
    Calls Try.prog 27 #[.slice A n cap] w fun e w' => e = .returned (.int .u32 (moreI 0 L)) ∧ Below w.heap.size w w' := by
  subst hn
  exact rcrc_any A cap L w hA hL hl

set_option maxHeartbeats 1000000 in
theorem rput_long (A : Option Addr) (cap n : Nat) (w : World) (hn : 1024 < n) :
    Calls Try.prog 21 #[.slice A n cap] w (PutBack [] 0 2 w) := by
  have t1 : (1024 : Int) < (n : Int) := by omega
  go_enter Try.func21, Try.ntmps21
  go_wp2_with fail
  refine bodyPost_ret (v := .tuple #[.slice none 0 0, .int .i64 2]) ?_ rfl (putBack_nil rfl (by (repeat (first | (with_reducible assumption) | (with_reducible exact Below.refl _ _) | ((with_reducible refine Below.setCell ?_ ?_ _); rotate_left; · (first | omega | (simp; done) | (simp; omega) | (simp at *; omega))) | ((with_reducible refine Below.alloc ?_ ?_ _); rotate_left; · (first | omega | (simp; done) | (simp; omega) | (simp at *; omega))) | (with_reducible refine Below.drew ?_) | (with_reducible refine below_drewN ?_ _) | ((refine Below.trans ?_ (Below.mono (by with_reducible assumption) ?_)); rotate_left; · (first | omega | (simp; done) | (simp; omega) | (simp at *; omega)))))))
  simp [results, Try.results21, go_sem]

set_option maxHeartbeats 2000000 in
theorem rput_any (A : Option Addr) (cap n : Nat) (L : List Int) (w : World) (hln : L.length = n) (hA : IntsAt .u8 w A L) (hcap : A = none → cap = 0) (hL : ∀ x ∈ L, U8 x) (hn : n ≤ 1024) :
    Calls Try.prog 21 #[.slice A n cap] w (PutBack (putL L) (6 + n) 0 w) := by
  have HA := Lib.hid hA
  have HL := Lib.hid hL
  have HN := Lib.hid hln
  have HC := Lib.hid hcap
  have hin := sumL_in hL (by omega)
  have HU := Lib.hid (headL_u8 (n := n) (by omega))
  have HCI := Lib.hid (moreI_in (c := 0) (L := headL n) ⟨by decide, by decide⟩ HU.out)
  have hcr : sumL L = moreI (moreI 0 (headL n)) L := by unfold sumL; rw [hln]
  obtain ⟨s, hs⟩ : ∃ s, s = sumL L := ⟨_, rfl⟩
  have HS := Lib.hid (hs.trans hcr).symm
  have HP := Lib.hid (show putL L = headL n ++ tailL s ++ L by unfold putL; rw [hln, hs])
  rw [← hs] at hin
  obtain ⟨s1, s2⟩ := hin
  clear hA hL hln hcap hs hcr
  obtain ⟨i0, hi0, hz0, hz1, hz2⟩ := info_parts Bytes.infoE
  have HI0 := Lib.hid hi0
  have HZ0 := Lib.hid hz0
  have HZ1 := Lib.hid hz1
  have HZ2 := Lib.hid hz2
  clear hi0 hz0 hz1 hz2
  have t1 : ¬ (1024 : Int) < (n : Int) := by omega
  have e1 : (n : Int) / 256 ≤ 255 := by omega
  have e2 : 0 ≤ (n : Int) / 256 := by omega
  have e3 : 0 ≤ s / 16777216 := by omega
  have e4 : s / 16777216 ≤ 255 := by omega
  have HHD := Lib.hid (show #[Value.int .u8 ((n : Int) / 256), Value.int .u8 ((n : Int) % 256)].toList = (headL n).map (Value.int .u8) from rfl)
  have hown0 := own_of_blk (base := w.heap.size) (Blk.new w 5 #[.int .u8 ((n : Int) / 256), .int .u8 ((n : Int) % 256)]) (Nat.le_refl _) HHD.out rfl (show 2 ≤ _ by omega)
  have hin0 := (irow_blk (Blk.new w 5 #[.int .u8 ((n : Int) / 256), .int .u8 ((n : Int) % 256)]) HHD.out (show (headL n).length = 2 from rfl)).at_
  have HO0 := Lib.hid hown0
  have HI := Lib.hid hin0
  clear hown0 hin0
  go_enter Try.func21, Try.ntmps21
  go_wp2_with fail
  refine (rcrc_at _ 2 2 (headL n) _ rfl HI.out HU.out (by decide)).mono ?_
  rintro e w1 ⟨rfl, hb1⟩
  have B1 := Lib.hid (((Below.refl w.heap.size w).alloc (Nat.le_refl _) (.cells #[.int .u8 ((n : Int) / 256), .int .u8 ((n : Int) % 256)] 5)).trans (hb1.mono (by simp)))
  have HO1 := Lib.hid (HO0.out.below hb1)
  clear hb1 HO0 HI
  go_wp2_with fail
  refine (rmore_at _ A n cap L w1 HN.out HCI.out (HA.out.below B1.out (Nat.le_refl _)) HL.out (by omega)).mono ?_
  rw [HS.out]
  rintro e w2 ⟨rfl, hb2⟩
  have HO2 := Lib.hid (HO1.out.below hb2)
  have B2 := Lib.hid (B1.out.trans (hb2.mono B1.out.size))
  clear hb2 HO1 B1
  obtain ⟨wx, rfl⟩ : ∃ wq : World, wq = w2 := ⟨_, rfl⟩
  have hgrown0 : w.heap.size ≤ wx.heap.size := B2.out.size
  have hbase : w.heap.size ≤ (wx.alloc (.cells #[.int .u8 (s / 16777216), .int .u8 (s / 65536 % 256), .int .u8 (s / 256 % 256), .int .u8 (s % 256)] 5)).heap.size := by simp; omega
  have hrows : ∀ j v, ((tailL s).map (Value.int .u8))[j]? = some v → (wx.alloc (.cells #[.int .u8 (s / 16777216), .int .u8 (s / 65536 % 256), .int .u8 (s / 256 % 256), .int .u8 (s % 256)] 5)).cell? ((⟨wx.heap.size, 0, none⟩ : Addr).add j) = some v := World.news_of_block (cs := #[.int .u8 (s / 16777216), .int .u8 (s / 65536 % 256), .int .u8 (s / 256 % 256), .int .u8 (s % 256)]) (t := 5) (fr := (0, 0)) (heap_alloc_new wx _)
  have HRO := Lib.hid hrows
  have hbx : Below w.heap.size w (wx.alloc (.cells #[.int .u8 (s / 16777216), .int .u8 (s / 65536 % 256), .int .u8 (s / 256 % 256), .int .u8 (s % 256)] 5)) := B2.out.alloc B2.out.size _
  have HBX := Lib.hid hbx
  have HOX := Lib.hid (HO2.out.alloc (.cells #[.int .u8 (s / 16777216), .int .u8 (s / 65536 % 256), .int .u8 (s / 256 % 256), .int .u8 (s % 256)] 5))
  have K4 := Lib.hid (show ((tailL s).map (Value.int .u8)).length = 4 * 1 from rfl)
  have k1 : 2 + 4 ≤ maxLen := by unfold maxLen; omega
  have k2 : (2 + 4) * 1 ≤ 140737488355328 := by omega
  have HZI := Lib.hid (zero_intK .u8)
  clear hrows hbx HO2
  go_upto_region 6 with (at_builtin; refine wpList_append_G _ rfl (.tmp 23) (.tmp 35) 22 rfl (IsIntK .u8) w.heap.size 5 i0 _ 1 1 Try.underlying22 HI0.out HZ0.out HZ1.out HZ2.out rfl (by omega) _ 2 _ rfl HOX.out ⟨wx.heap.size, 0, none⟩ 4 4 ((tailL s).map (Value.int .u8)) rfl K4.out HRO.out (ints_oneCell .u8 _) k1 k2 hbase HZI.out (ints_all .u8 _) (ints_all .u8 _) ?_; intro v3 w3 hown3 hgrow3; have hb3 : Below w.heap.size w w3 := HBX.out.grown hgrow3 hbase (fun q hq => (HOX.out.1.lt q hq).1); obtain ⟨A3, cap3, rfl⟩ := hown3.slice)
  rw [← List.map_append] at hown3
  have HO3 := Lib.hid hown3
  have HB3 := Lib.hid hb3
  have hz3 := hb3.size
  clear hown3 hgrow3 hb3 HOX HBX HRO K4 k1 k2 hbase
  have hnn : A = none → n = 0 ∧ cap = 0 := fun e => ⟨by
    by_cases h0 : 0 < L.length
    · obtain ⟨b, off, e', _, _⟩ := HA.out h0
      rw [e] at e'; cases e'
    · have := HN.out; omega, HC.out e⟩
  have HNN := Lib.hid hnn
  have HNW := Lib.hid (ints_news (HA.out.below HB3.out (Nat.le_refl _)))
  have k3 : 6 + n ≤ maxLen := by unfold maxLen; omega
  have k4 : (6 + n) * 1 ≤ 140737488355328 := by omega
  have k8 : (L.map (Value.int .u8)).length = n * 1 := by rw [List.length_map, HN.out]; omega
  have K8 := Lib.hid k8
  clear hnn k8
  go_wp2_with (at_builtin; refine wpList_append_G_any _ rfl (.tmp 37) (.tmp 38) 22 rfl (IsIntK .u8) w.heap.size 5 i0 _ 1 1 Try.underlying22 HI0.out HZ0.out HZ1.out HZ2.out rfl (by omega) _ 6 _ rfl HO3.out A n cap (L.map (Value.int .u8)) rfl K8.out HNN.out HNW.out (ints_oneCell .u8 _) k3 k4 hz3 HZI.out (ints_all .u8 _) (ints_all .u8 _) ?_; intro v' w4 hown4 hgrow; have hb4 : Below w.heap.size w w4 := HB3.out.grown hgrow hz3 (fun q hq => (HO3.out.1.lt q hq).1); obtain ⟨A', cap', rfl⟩ := hown4.slice)
  refine bodyPost_ret (v := .tuple #[.slice A' (6 + n) cap', .int .i64 0]) ?_ rfl ⟨A', cap', rfl, by rw [putL_len, HN.out], by rw [HP.out, List.map_append]; exact hown4, hb4⟩
  simp [results, Try.results21, go_sem]
end Go.Proofs.Ytjpbmapnagkonaa
