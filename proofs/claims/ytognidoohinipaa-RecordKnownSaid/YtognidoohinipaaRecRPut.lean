/-
  What is proved here: a record's bytes, as Put of the reference lays them (chapter 11). Conditions: a tag's length.
-/
import Derived.Test.YtognidoohinipaaRecPut
namespace Go.Proofs.Ytognidoohinipaa
open Go.RowKit Go.Deep Go.Joins Go.WideShapes

theorem rcheck_is (k t : Int) (g : ByteArray) (v i n : Int) (w : World) (hg : g.size ≤ 9223372036854775807) (h : recErr ⟨k, t, g, v, i⟩ = n) :
    Calls Try.prog 12 #[.agg #[.int .i64 k, .int .i64 t, .string g, .int .i64 v, .int .i64 i]] w fun e w' => e = .returned (.int .i64 n) ∧ Below w.heap.size w w' := by
  subst h
  exact rcheck_any ⟨k, t, g, v, i⟩ w hg
set_option maxHeartbeats 1000000 in
theorem rput_err (k t : Int) (g : ByteArray) (v i n : Int) (w : World) (hg : g.size ≤ 9223372036854775807) (h : recErr ⟨k, t, g, v, i⟩ = n) (h0 : n ≠ 0) :
    Calls Try.prog 10 #[.agg #[.int .i64 k, .int .i64 t, .string g, .int .i64 v, .int .i64 i]] w (PutBack [] n w) := by
  have H := Lib.hid h
  have hn : (n != 0) = true := by simp [h0]
  clear h h0
  go_enter Try.func10, Try.ntmps10
  go_wp2_with fail
  refine (rcheck_is k t g v i n _ hg H.out).mono ?_
  rintro e w1 ⟨rfl, hb1⟩
  have HB := Lib.hid (((Below.refl w.heap.size w).alloc (Nat.le_refl _) (.cells #[.int .i64 k, .int .i64 t, .string g, .int .i64 v, .int .i64 i] 23)).trans (hb1.mono (by simp)))
  clear hb1
  go_wp2_with fail
  refine bodyPost_ret (v := .tuple #[.slice none 0 0, .int .i64 n]) ?_ rfl (putBack_nil rfl HB.out)
  simp [results, Try.results10, go_sem]
theorem reight_to (A : Option Addr) (n c base m : Nat) (L M : List Int) (x : Int) (w : World) (hm : n + 8 = m) (hM : L ++ be8 x = M) (hown : OwnG Tr w base 5 1 (.slice A n c) n (L.map (Value.int .u8))) (hbase : base ≤ w.heap.size) (hn : n ≤ 1000) :
    Calls Try.prog 22 #[.slice A n c, .int .i64 x] w (EightBack base m M w) := by
  subst hm hM
  exact reight_any A n c base L x w hown hbase hn
theorem strL_get (g : ByteArray) {j : Nat} (h : j < g.size) : (strL g).getD j 0 = (byteAt g j : Int) := by
  unfold strL byteAt
  have hl : j < g.data.toList.length := by simpa using h
  rw [List.getD_eq_getElem?_getD, List.getElem?_map, List.getElem?_eq_getElem hl, List.getD_eq_getElem?_getD, List.getElem?_eq_getElem hl]
  rfl
theorem strL_snoc (g : ByteArray) {j : Nat} (h : j < g.size) : (strL g).take (j + 1) = (strL g).take j ++ [(byteAt g j : Int)] := by
  rw [take_snoc_int _ _ (by rw [strL_len]; exact h), strL_get g h]

set_option maxRecDepth 100000 in
set_option maxHeartbeats 1000000 in
theorem rput_1 (t : Int) (g : ByteArray) (v i : Int) (w : World) (hg : g.size ≤ 16) (h : recErr ⟨1, t, g, v, i⟩ = 0) :
    Calls Try.prog 10 #[.agg #[.int .i64 1, .int .i64 t, .string g, .int .i64 v, .int .i64 i]] w (PutBack (recL ⟨1, t, g, v, i⟩) 0 w) := by
  have H := Lib.hid h
  have HL := Lib.hid (show recL ⟨1, t, g, v, i⟩ = (((([1] ++ be8 t) ++ [(g.size : Int)]) ++ strL g) ++ be8 v) from have e : (g.size : Int) % 256 = (g.size : Int) := (by omega); by simp [recL, tagK, namK, e])
  obtain ⟨cs, hcs⟩ : ∃ cs : Array Value, cs = #[.int .i64 1, .int .i64 t, .string g, .int .i64 v, .int .i64 i] := ⟨_, rfl⟩
  have HCS := Lib.hid hcs
  obtain ⟨i0, hi0, hy0, hy1, hy2⟩ := info_parts Bytes.infoE
  have HI0 := Lib.hid hi0
  have HY0 := Lib.hid hy0
  have HY1 := Lib.hid hy1
  have HY2 := Lib.hid hy2
  clear hi0 hy0 hy1 hy2
  clear h hcs
  go_enter Try.func10, Try.ntmps10
  go_wp2_with fail
  refine (rcheck_is 1 t g v i 0 _ (by omega) H.out).mono ?_
  rintro e w1 ⟨rfl, hb1⟩
  have HB1 := Lib.hid (((Below.refl w.heap.size w).alloc (Nat.le_refl _) (.cells #[.int .i64 1, .int .i64 t, .string g, .int .i64 v, .int .i64 i] 23)).trans (hb1.mono (by simp)))
  have hbox : Blk w1 w.heap.size 23 cs := by rw [HCS.out]; exact (Blk.new w 23 _).below hb1 (by simp)
  have HBX := Lib.hid hbox
  have hz1 : w.heap.size ≤ w1.heap.size := HB1.out.size
  have b0 : w1.cell? ⟨w.heap.size, 0, none⟩ = some (.int .i64 1) := (HBX.out.cell 0).trans (by rw [HCS.out]; rfl)
  have b1 : w1.cell? ⟨w.heap.size, 1, none⟩ = some (.int .i64 t) := (HBX.out.cell 1).trans (by rw [HCS.out]; rfl)
  have b2 : w1.cell? ⟨w.heap.size, 2, none⟩ = some (.string g) := (HBX.out.cell 2).trans (by rw [HCS.out]; rfl)
  have b3 : w1.cell? ⟨w.heap.size, 3, none⟩ = some (.int .i64 v) := (HBX.out.cell 3).trans (by rw [HCS.out]; rfl)
  have b4 : w1.cell? ⟨w.heap.size, 4, none⟩ = some (.int .i64 i) := (HBX.out.cell 4).trans (by rw [HCS.out]; rfl)
  have hlt : w.heap.size < w1.heap.size := HBX.out.lt
  clear hb1 hbox
  have HO2 := Lib.hid (own_new (E := 5) w1 [1] w.heap.size hz1 (by decide) #[.int .u8 1] rfl)
  have HK2 := Lib.hid ((Keeps.refl 5 w1).alloc (.cells #[.int .u8 1] 5))
  have HB2 := Lib.hid (HB1.out.alloc hz1 (.cells #[.int .u8 1] 5))
  go_wp2_with fail
  refine (reight_to _ 1 1 w.heap.size 9 [1] ([1] ++ be8 t) t _ rfl rfl HO2.out (by simp; omega) (by omega)).mono ?_
  rintro e w2 ⟨A2, c2, rfl, ho2, hb2, hk2⟩
  have HO3 := Lib.hid ho2
  have HB3 := Lib.hid (HB2.out.trans hb2)
  have HBX3 := Lib.hid ((HK2.out.trans hk2) _ _ _ (by decide) HBX.out)
  have hz2 : w.heap.size ≤ w2.heap.size := HB3.out.size
  clear ho2 hb2 hk2 b0 b1 b2 b3 b4 hlt HO2 HK2 HB2 HB1
  have b0 : w2.cell? ⟨w.heap.size, 0, none⟩ = some (.int .i64 1) := (HBX3.out.cell 0).trans (by rw [HCS.out]; rfl)
  have b1 : w2.cell? ⟨w.heap.size, 1, none⟩ = some (.int .i64 t) := (HBX3.out.cell 1).trans (by rw [HCS.out]; rfl)
  have b2 : w2.cell? ⟨w.heap.size, 2, none⟩ = some (.string g) := (HBX3.out.cell 2).trans (by rw [HCS.out]; rfl)
  have b3 : w2.cell? ⟨w.heap.size, 3, none⟩ = some (.int .i64 v) := (HBX3.out.cell 3).trans (by rw [HCS.out]; rfl)
  have b4 : w2.cell? ⟨w.heap.size, 4, none⟩ = some (.int .i64 i) := (HBX3.out.cell 4).trans (by rw [HCS.out]; rfl)
  have hlt : w.heap.size < w2.heap.size := HBX3.out.lt
  have k3 : 9 + 1 ≤ maxLen := by unfold maxLen; omega
  have k4 : (9 + 1) * 1 ≤ 140737488355328 := by omega
  have HOA := Lib.hid (HO3.out.alloc (.cells #[.int .u8 (g.size : Int)] 5))
  have HBA := Lib.hid (HB3.out.alloc hz2 (.cells #[.int .u8 (g.size : Int)] 5))
  have HKA := Lib.hid ((Keeps.refl 5 w2).alloc (.cells #[.int .u8 (g.size : Int)] 5))
  have hza : w.heap.size ≤ (w2.alloc (.cells #[.int .u8 (g.size : Int)] 5)).heap.size := HBA.out.size
  have HN1 := Lib.hid (ints_one .u8 (g.size : Int)).1
  go_wp2_with (first | (go_at_call 23; (with_reducible refine (tagged_1 _).mono ?_); rintro e w' ⟨rfl, rfl⟩) | (go_at_call 24; (with_reducible refine (named_1 _).mono ?_); rintro e w' ⟨rfl, rfl⟩) | (go_at_call 25; (with_reducible refine (valued_1 _).mono ?_); rintro e w' ⟨rfl, rfl⟩) | (at_builtin; refine wpList_append_G _ rfl (.tmp 22) (.tmp 27) 24 rfl Tr w.heap.size 5 i0 _ 1 1 Try.underlying24 HI0.out HY0.out HY1.out HY2.out rfl (by omega) _ 9 _ rfl HOA.out ⟨w2.heap.size, 0, none⟩ 1 1 [.int .u8 (g.size : Int)] rfl rfl (World.news_of_block (cs := #[.int .u8 (g.size : Int)]) (t := 5) (fr := (0, 0)) (heap_alloc_new w2 _)) HN1.out k3 k4 hza (tr_all _) (tr_all _) (tr_all _) ?_; intro v3 w3 hown3 hgrow3; obtain ⟨A3, k3', rfl⟩ := hown3.slice) | fail)
  have HOB := Lib.hid (show OwnG Tr w3 w.heap.size 5 1 (.slice A3 (9 + 1) k3') (9 + 1) ((([1] ++ be8 t) ++ [(g.size : Int)]).map (Value.int .u8)) from by rw [List.map_append]; exact hown3)
  have HBB := Lib.hid (HBA.out.grown hgrow3 hza (fun q hq => (HOA.out.1.lt q hq).1))
  have HKB := Lib.hid (HKA.out.trans (Keeps.grown HOA.out hgrow3))
  clear hown3 hgrow3 b0 b1 b2 b3 b4 hlt
  go_loopg [5, 6] g.size (fun gm bv iv wr => ∃ (j cj : Nat) (Y : Option Addr), j ≤ g.size ∧ gm = g.size - j ∧ iv = .int .i64 j ∧ bv = .slice Y (9 + 1 + j) cj ∧ OwnG Tr wr w.heap.size 5 1 (.slice Y (9 + 1 + j) cj) (9 + 1 + j) (((([1] ++ be8 t) ++ [(g.size : Int)]) ++ (strL g).take j).map (Value.int .u8)) ∧ Below w.heap.size w wr ∧ Keeps 5 w2 wr)
  case atStart => exact ⟨0, k3', A3, by omega, rfl, rfl, rfl, by simpa using HOB.out, HBB.out, HKB.out⟩
  case round =>
    obtain ⟨j, cj, Y, hj, rfl, rfl, rfl, hown, hbw, hkw⟩ := hrel
    obtain ⟨wz, rfl⟩ : ∃ wq : World, wq = wr := ⟨_, rfl⟩
    have HOW := Lib.hid hown
    have HBW := Lib.hid hbw
    have HKW := Lib.hid hkw
    have HBXZ := Lib.hid (HKW.out _ _ _ (by decide) HBX3.out)
    have hzz : w.heap.size ≤ wz.heap.size := HBW.out.size
    clear hown hbw hkw
    have b0 : wz.cell? ⟨w.heap.size, 0, none⟩ = some (.int .i64 1) := (HBXZ.out.cell 0).trans (by rw [HCS.out]; rfl)
    have b1 : wz.cell? ⟨w.heap.size, 1, none⟩ = some (.int .i64 t) := (HBXZ.out.cell 1).trans (by rw [HCS.out]; rfl)
    have b2 : wz.cell? ⟨w.heap.size, 2, none⟩ = some (.string g) := (HBXZ.out.cell 2).trans (by rw [HCS.out]; rfl)
    have b3 : wz.cell? ⟨w.heap.size, 3, none⟩ = some (.int .i64 v) := (HBXZ.out.cell 3).trans (by rw [HCS.out]; rfl)
    have b4 : wz.cell? ⟨w.heap.size, 4, none⟩ = some (.int .i64 i) := (HBXZ.out.cell 4).trans (by rw [HCS.out]; rfl)
    have hlt : w.heap.size < wz.heap.size := HBXZ.out.lt
    by_cases hjl : j < g.size
    · have hji : (j : Int) < (g.size : Int) := by omega
      have hj0 : (0 : Int) ≤ (j : Int) := by omega
      have hget := byteAt_get g j hjl
      obtain ⟨z, hz⟩ : ∃ z : Nat, z = g[j].toNat := ⟨_, rfl⟩
      have HZ := Lib.hid hz
      have hsn := strL_snoc g hjl
      rw [← hget, ← hz] at hsn
      have HSN := Lib.hid (show (([1] ++ be8 t) ++ [(g.size : Int)]) ++ (strL g).take (j + 1) = ((([1] ++ be8 t) ++ [(g.size : Int)]) ++ (strL g).take j) ++ [(z : Int)] by rw [hsn, List.append_assoc (([1] ++ be8 t) ++ [(g.size : Int)])])
      have HOA := Lib.hid (HOW.out.alloc (.cells #[.int .u8 (z : Int)] 5))
      have hza : w.heap.size ≤ (wz.alloc (.cells #[.int .u8 (z : Int)] 5)).heap.size := by simp; omega
      have HBA := Lib.hid (HBW.out.alloc hzz (.cells #[.int .u8 (z : Int)] 5))
      have HKA := Lib.hid (HKW.out.alloc (.cells #[.int .u8 (z : Int)] 5))
      have HN1 := Lib.hid (ints_one .u8 (z : Int)).1
      have k3 : 9 + 1 + j + 1 ≤ maxLen := by unfold maxLen; omega
      have k4 : (9 + 1 + j + 1) * 1 ≤ 140737488355328 := by omega
      rw [hz] at HSN HOA hza HBA HKA HN1
      clear hsn hget hz HZ
      go_wp2_with (at_builtin; refine wpList_append_G _ rfl (.tmp 36) (.tmp 41) 24 rfl Tr w.heap.size 5 i0 _ 1 1 Try.underlying24 HI0.out HY0.out HY1.out HY2.out rfl (by omega) _ (9 + 1 + j) _ rfl HOA.out ⟨wz.heap.size, 0, none⟩ 1 1 [.int .u8 (g[j].toNat : Int)] rfl rfl (World.news_of_block (cs := #[.int .u8 (g[j].toNat : Int)]) (t := 5) (fr := (0, 0)) (heap_alloc_new wz _)) HN1.out k3 k4 hza (tr_all _) (tr_all _) (tr_all _) ?_; intro v4 w4 hown4 hgrow4; have hb4 : Below w.heap.size w w4 := HBA.out.grown hgrow4 hza (fun q hq => (HOA.out.1.lt q hq).1); have hk4 : Keeps 5 w2 w4 := HKA.out.trans (Keeps.grown HOA.out hgrow4); obtain ⟨A4, k4', rfl⟩ := hown4.slice)
      have HO4 := Lib.hid (show OwnG Tr w4 w.heap.size 5 1 (.slice A4 (9 + 1 + j + 1) k4') (9 + 1 + j + 1) (((([1] ++ be8 t) ++ [(g.size : Int)]) ++ (strL g).take (j + 1)).map (Value.int .u8)) by rw [HSN.out, List.map_append]; exact hown4)
      clear hown4 hgrow4
      go_roundg (g.size - (j + 1))
      case measure => omega
      case rel => exact ⟨j + 1, k4', A4, by omega, rfl, by go_num, rfl, HO4.out, hb4, hk4⟩
    · obtain rfl : j = g.size := by omega
      have hji : ¬ (g.size : Int) < (g.size : Int) := by omega
      rw [show (strL g).take g.size = strL g from List.take_of_length_le (by rw [strL_len]; exact Nat.le_refl _)] at HOW
      go_wp2_with (first | (go_at_call 23; (with_reducible refine (tagged_1 _).mono ?_); rintro e w' ⟨rfl, rfl⟩) | (go_at_call 24; (with_reducible refine (named_1 _).mono ?_); rintro e w' ⟨rfl, rfl⟩) | (go_at_call 25; (with_reducible refine (valued_1 _).mono ?_); rintro e w' ⟨rfl, rfl⟩) | fail)
      refine (reight_to _ (9 + 1 + g.size) _ w.heap.size (9 + 1 + g.size + 8) ((([1] ++ be8 t) ++ [(g.size : Int)]) ++ strL g) (((([1] ++ be8 t) ++ [(g.size : Int)]) ++ strL g) ++ be8 v) v _ rfl rfl HOW.out (by omega) (by omega)).mono ?_
      rintro e w7 ⟨A7, c7, rfl, ho5, hb5, hk5⟩
      have HO7 := Lib.hid ho5
      have HB7 := Lib.hid (HBW.out.trans hb5)
      have HBX7 := Lib.hid (hk5 _ _ _ (by decide) HBXZ.out)
      have hz7 : w.heap.size ≤ w7.heap.size := HB7.out.size
      clear ho5 hb5 hk5 b0 b1 b2 b3 b4 hlt
      have b0 : w7.cell? ⟨w.heap.size, 0, none⟩ = some (.int .i64 1) := (HBX7.out.cell 0).trans (by rw [HCS.out]; rfl)
      have b1 : w7.cell? ⟨w.heap.size, 1, none⟩ = some (.int .i64 t) := (HBX7.out.cell 1).trans (by rw [HCS.out]; rfl)
      have b2 : w7.cell? ⟨w.heap.size, 2, none⟩ = some (.string g) := (HBX7.out.cell 2).trans (by rw [HCS.out]; rfl)
      have b3 : w7.cell? ⟨w.heap.size, 3, none⟩ = some (.int .i64 v) := (HBX7.out.cell 3).trans (by rw [HCS.out]; rfl)
      have b4 : w7.cell? ⟨w.heap.size, 4, none⟩ = some (.int .i64 i) := (HBX7.out.cell 4).trans (by rw [HCS.out]; rfl)
      have hlt : w.heap.size < w7.heap.size := HBX7.out.lt
      have HLN := Lib.hid (show (recL ⟨1, t, g, v, i⟩).length = (9 + 1 + g.size + 8) by rw [HL.out]; simp [be8_len, strL_len]; omega)
      go_wp2_with (first | (go_at_call 23; (with_reducible refine (tagged_1 _).mono ?_); rintro e w' ⟨rfl, rfl⟩) | (go_at_call 24; (with_reducible refine (named_1 _).mono ?_); rintro e w' ⟨rfl, rfl⟩) | (go_at_call 25; (with_reducible refine (valued_1 _).mono ?_); rintro e w' ⟨rfl, rfl⟩) | fail)
      refine bodyPost_ret (v := .tuple #[.slice A7 (9 + 1 + g.size + 8) c7, .int .i64 0]) ?_ rfl ⟨A7, c7, by rw [HLN.out], by rw [HLN.out, HL.out]; exact HO7.out, HB7.out⟩
      simp [results, Try.results10, go_sem]
set_option maxRecDepth 100000 in
set_option maxHeartbeats 1000000 in
theorem rput_2 (t : Int) (g : ByteArray) (v i : Int) (w : World) (hg : g.size ≤ 16) (h : recErr ⟨2, t, g, v, i⟩ = 0) :
    Calls Try.prog 10 #[.agg #[.int .i64 2, .int .i64 t, .string g, .int .i64 v, .int .i64 i]] w (PutBack (recL ⟨2, t, g, v, i⟩) 0 w) := by
  have H := Lib.hid h
  have HL := Lib.hid (show recL ⟨2, t, g, v, i⟩ = (((([2] ++ be8 t) ++ [(g.size : Int)]) ++ strL g) ++ be8 v) from have e : (g.size : Int) % 256 = (g.size : Int) := (by omega); by simp [recL, tagK, namK, e])
  obtain ⟨cs, hcs⟩ : ∃ cs : Array Value, cs = #[.int .i64 2, .int .i64 t, .string g, .int .i64 v, .int .i64 i] := ⟨_, rfl⟩
  have HCS := Lib.hid hcs
  obtain ⟨i0, hi0, hy0, hy1, hy2⟩ := info_parts Bytes.infoE
  have HI0 := Lib.hid hi0
  have HY0 := Lib.hid hy0
  have HY1 := Lib.hid hy1
  have HY2 := Lib.hid hy2
  clear hi0 hy0 hy1 hy2
  clear h hcs
  go_enter Try.func10, Try.ntmps10
  go_wp2_with fail
  refine (rcheck_is 2 t g v i 0 _ (by omega) H.out).mono ?_
  rintro e w1 ⟨rfl, hb1⟩
  have HB1 := Lib.hid (((Below.refl w.heap.size w).alloc (Nat.le_refl _) (.cells #[.int .i64 2, .int .i64 t, .string g, .int .i64 v, .int .i64 i] 23)).trans (hb1.mono (by simp)))
  have hbox : Blk w1 w.heap.size 23 cs := by rw [HCS.out]; exact (Blk.new w 23 _).below hb1 (by simp)
  have HBX := Lib.hid hbox
  have hz1 : w.heap.size ≤ w1.heap.size := HB1.out.size
  have b0 : w1.cell? ⟨w.heap.size, 0, none⟩ = some (.int .i64 2) := (HBX.out.cell 0).trans (by rw [HCS.out]; rfl)
  have b1 : w1.cell? ⟨w.heap.size, 1, none⟩ = some (.int .i64 t) := (HBX.out.cell 1).trans (by rw [HCS.out]; rfl)
  have b2 : w1.cell? ⟨w.heap.size, 2, none⟩ = some (.string g) := (HBX.out.cell 2).trans (by rw [HCS.out]; rfl)
  have b3 : w1.cell? ⟨w.heap.size, 3, none⟩ = some (.int .i64 v) := (HBX.out.cell 3).trans (by rw [HCS.out]; rfl)
  have b4 : w1.cell? ⟨w.heap.size, 4, none⟩ = some (.int .i64 i) := (HBX.out.cell 4).trans (by rw [HCS.out]; rfl)
  have hlt : w.heap.size < w1.heap.size := HBX.out.lt
  clear hb1 hbox
  have HO2 := Lib.hid (own_new (E := 5) w1 [2] w.heap.size hz1 (by decide) #[.int .u8 2] rfl)
  have HK2 := Lib.hid ((Keeps.refl 5 w1).alloc (.cells #[.int .u8 2] 5))
  have HB2 := Lib.hid (HB1.out.alloc hz1 (.cells #[.int .u8 2] 5))
  go_wp2_with fail
  refine (reight_to _ 1 1 w.heap.size 9 [2] ([2] ++ be8 t) t _ rfl rfl HO2.out (by simp; omega) (by omega)).mono ?_
  rintro e w2 ⟨A2, c2, rfl, ho2, hb2, hk2⟩
  have HO3 := Lib.hid ho2
  have HB3 := Lib.hid (HB2.out.trans hb2)
  have HBX3 := Lib.hid ((HK2.out.trans hk2) _ _ _ (by decide) HBX.out)
  have hz2 : w.heap.size ≤ w2.heap.size := HB3.out.size
  clear ho2 hb2 hk2 b0 b1 b2 b3 b4 hlt HO2 HK2 HB2 HB1
  have b0 : w2.cell? ⟨w.heap.size, 0, none⟩ = some (.int .i64 2) := (HBX3.out.cell 0).trans (by rw [HCS.out]; rfl)
  have b1 : w2.cell? ⟨w.heap.size, 1, none⟩ = some (.int .i64 t) := (HBX3.out.cell 1).trans (by rw [HCS.out]; rfl)
  have b2 : w2.cell? ⟨w.heap.size, 2, none⟩ = some (.string g) := (HBX3.out.cell 2).trans (by rw [HCS.out]; rfl)
  have b3 : w2.cell? ⟨w.heap.size, 3, none⟩ = some (.int .i64 v) := (HBX3.out.cell 3).trans (by rw [HCS.out]; rfl)
  have b4 : w2.cell? ⟨w.heap.size, 4, none⟩ = some (.int .i64 i) := (HBX3.out.cell 4).trans (by rw [HCS.out]; rfl)
  have hlt : w.heap.size < w2.heap.size := HBX3.out.lt
  have k3 : 9 + 1 ≤ maxLen := by unfold maxLen; omega
  have k4 : (9 + 1) * 1 ≤ 140737488355328 := by omega
  have HOA := Lib.hid (HO3.out.alloc (.cells #[.int .u8 (g.size : Int)] 5))
  have HBA := Lib.hid (HB3.out.alloc hz2 (.cells #[.int .u8 (g.size : Int)] 5))
  have HKA := Lib.hid ((Keeps.refl 5 w2).alloc (.cells #[.int .u8 (g.size : Int)] 5))
  have hza : w.heap.size ≤ (w2.alloc (.cells #[.int .u8 (g.size : Int)] 5)).heap.size := HBA.out.size
  have HN1 := Lib.hid (ints_one .u8 (g.size : Int)).1
  go_wp2_with (first | (go_at_call 23; (with_reducible refine (tagged_2 _).mono ?_); rintro e w' ⟨rfl, rfl⟩) | (go_at_call 24; (with_reducible refine (named_2 _).mono ?_); rintro e w' ⟨rfl, rfl⟩) | (go_at_call 25; (with_reducible refine (valued_2 _).mono ?_); rintro e w' ⟨rfl, rfl⟩) | (at_builtin; refine wpList_append_G _ rfl (.tmp 22) (.tmp 27) 24 rfl Tr w.heap.size 5 i0 _ 1 1 Try.underlying24 HI0.out HY0.out HY1.out HY2.out rfl (by omega) _ 9 _ rfl HOA.out ⟨w2.heap.size, 0, none⟩ 1 1 [.int .u8 (g.size : Int)] rfl rfl (World.news_of_block (cs := #[.int .u8 (g.size : Int)]) (t := 5) (fr := (0, 0)) (heap_alloc_new w2 _)) HN1.out k3 k4 hza (tr_all _) (tr_all _) (tr_all _) ?_; intro v3 w3 hown3 hgrow3; obtain ⟨A3, k3', rfl⟩ := hown3.slice) | fail)
  have HOB := Lib.hid (show OwnG Tr w3 w.heap.size 5 1 (.slice A3 (9 + 1) k3') (9 + 1) ((([2] ++ be8 t) ++ [(g.size : Int)]).map (Value.int .u8)) from by rw [List.map_append]; exact hown3)
  have HBB := Lib.hid (HBA.out.grown hgrow3 hza (fun q hq => (HOA.out.1.lt q hq).1))
  have HKB := Lib.hid (HKA.out.trans (Keeps.grown HOA.out hgrow3))
  clear hown3 hgrow3 b0 b1 b2 b3 b4 hlt
  go_loopg [5, 6] g.size (fun gm bv iv wr => ∃ (j cj : Nat) (Y : Option Addr), j ≤ g.size ∧ gm = g.size - j ∧ iv = .int .i64 j ∧ bv = .slice Y (9 + 1 + j) cj ∧ OwnG Tr wr w.heap.size 5 1 (.slice Y (9 + 1 + j) cj) (9 + 1 + j) (((([2] ++ be8 t) ++ [(g.size : Int)]) ++ (strL g).take j).map (Value.int .u8)) ∧ Below w.heap.size w wr ∧ Keeps 5 w2 wr)
  case atStart => exact ⟨0, k3', A3, by omega, rfl, rfl, rfl, by simpa using HOB.out, HBB.out, HKB.out⟩
  case round =>
    obtain ⟨j, cj, Y, hj, rfl, rfl, rfl, hown, hbw, hkw⟩ := hrel
    obtain ⟨wz, rfl⟩ : ∃ wq : World, wq = wr := ⟨_, rfl⟩
    have HOW := Lib.hid hown
    have HBW := Lib.hid hbw
    have HKW := Lib.hid hkw
    have HBXZ := Lib.hid (HKW.out _ _ _ (by decide) HBX3.out)
    have hzz : w.heap.size ≤ wz.heap.size := HBW.out.size
    clear hown hbw hkw
    have b0 : wz.cell? ⟨w.heap.size, 0, none⟩ = some (.int .i64 2) := (HBXZ.out.cell 0).trans (by rw [HCS.out]; rfl)
    have b1 : wz.cell? ⟨w.heap.size, 1, none⟩ = some (.int .i64 t) := (HBXZ.out.cell 1).trans (by rw [HCS.out]; rfl)
    have b2 : wz.cell? ⟨w.heap.size, 2, none⟩ = some (.string g) := (HBXZ.out.cell 2).trans (by rw [HCS.out]; rfl)
    have b3 : wz.cell? ⟨w.heap.size, 3, none⟩ = some (.int .i64 v) := (HBXZ.out.cell 3).trans (by rw [HCS.out]; rfl)
    have b4 : wz.cell? ⟨w.heap.size, 4, none⟩ = some (.int .i64 i) := (HBXZ.out.cell 4).trans (by rw [HCS.out]; rfl)
    have hlt : w.heap.size < wz.heap.size := HBXZ.out.lt
    by_cases hjl : j < g.size
    · have hji : (j : Int) < (g.size : Int) := by omega
      have hj0 : (0 : Int) ≤ (j : Int) := by omega
      have hget := byteAt_get g j hjl
      obtain ⟨z, hz⟩ : ∃ z : Nat, z = g[j].toNat := ⟨_, rfl⟩
      have HZ := Lib.hid hz
      have hsn := strL_snoc g hjl
      rw [← hget, ← hz] at hsn
      have HSN := Lib.hid (show (([2] ++ be8 t) ++ [(g.size : Int)]) ++ (strL g).take (j + 1) = ((([2] ++ be8 t) ++ [(g.size : Int)]) ++ (strL g).take j) ++ [(z : Int)] by rw [hsn, List.append_assoc (([2] ++ be8 t) ++ [(g.size : Int)])])
      have HOA := Lib.hid (HOW.out.alloc (.cells #[.int .u8 (z : Int)] 5))
      have hza : w.heap.size ≤ (wz.alloc (.cells #[.int .u8 (z : Int)] 5)).heap.size := by simp; omega
      have HBA := Lib.hid (HBW.out.alloc hzz (.cells #[.int .u8 (z : Int)] 5))
      have HKA := Lib.hid (HKW.out.alloc (.cells #[.int .u8 (z : Int)] 5))
      have HN1 := Lib.hid (ints_one .u8 (z : Int)).1
      have k3 : 9 + 1 + j + 1 ≤ maxLen := by unfold maxLen; omega
      have k4 : (9 + 1 + j + 1) * 1 ≤ 140737488355328 := by omega
      rw [hz] at HSN HOA hza HBA HKA HN1
      clear hsn hget hz HZ
      go_wp2_with (at_builtin; refine wpList_append_G _ rfl (.tmp 36) (.tmp 41) 24 rfl Tr w.heap.size 5 i0 _ 1 1 Try.underlying24 HI0.out HY0.out HY1.out HY2.out rfl (by omega) _ (9 + 1 + j) _ rfl HOA.out ⟨wz.heap.size, 0, none⟩ 1 1 [.int .u8 (g[j].toNat : Int)] rfl rfl (World.news_of_block (cs := #[.int .u8 (g[j].toNat : Int)]) (t := 5) (fr := (0, 0)) (heap_alloc_new wz _)) HN1.out k3 k4 hza (tr_all _) (tr_all _) (tr_all _) ?_; intro v4 w4 hown4 hgrow4; have hb4 : Below w.heap.size w w4 := HBA.out.grown hgrow4 hza (fun q hq => (HOA.out.1.lt q hq).1); have hk4 : Keeps 5 w2 w4 := HKA.out.trans (Keeps.grown HOA.out hgrow4); obtain ⟨A4, k4', rfl⟩ := hown4.slice)
      have HO4 := Lib.hid (show OwnG Tr w4 w.heap.size 5 1 (.slice A4 (9 + 1 + j + 1) k4') (9 + 1 + j + 1) (((([2] ++ be8 t) ++ [(g.size : Int)]) ++ (strL g).take (j + 1)).map (Value.int .u8)) by rw [HSN.out, List.map_append]; exact hown4)
      clear hown4 hgrow4
      go_roundg (g.size - (j + 1))
      case measure => omega
      case rel => exact ⟨j + 1, k4', A4, by omega, rfl, by go_num, rfl, HO4.out, hb4, hk4⟩
    · obtain rfl : j = g.size := by omega
      have hji : ¬ (g.size : Int) < (g.size : Int) := by omega
      rw [show (strL g).take g.size = strL g from List.take_of_length_le (by rw [strL_len]; exact Nat.le_refl _)] at HOW
      go_wp2_with (first | (go_at_call 23; (with_reducible refine (tagged_2 _).mono ?_); rintro e w' ⟨rfl, rfl⟩) | (go_at_call 24; (with_reducible refine (named_2 _).mono ?_); rintro e w' ⟨rfl, rfl⟩) | (go_at_call 25; (with_reducible refine (valued_2 _).mono ?_); rintro e w' ⟨rfl, rfl⟩) | fail)
      refine (reight_to _ (9 + 1 + g.size) _ w.heap.size (9 + 1 + g.size + 8) ((([2] ++ be8 t) ++ [(g.size : Int)]) ++ strL g) (((([2] ++ be8 t) ++ [(g.size : Int)]) ++ strL g) ++ be8 v) v _ rfl rfl HOW.out (by omega) (by omega)).mono ?_
      rintro e w7 ⟨A7, c7, rfl, ho5, hb5, hk5⟩
      have HO7 := Lib.hid ho5
      have HB7 := Lib.hid (HBW.out.trans hb5)
      have HBX7 := Lib.hid (hk5 _ _ _ (by decide) HBXZ.out)
      have hz7 : w.heap.size ≤ w7.heap.size := HB7.out.size
      clear ho5 hb5 hk5 b0 b1 b2 b3 b4 hlt
      have b0 : w7.cell? ⟨w.heap.size, 0, none⟩ = some (.int .i64 2) := (HBX7.out.cell 0).trans (by rw [HCS.out]; rfl)
      have b1 : w7.cell? ⟨w.heap.size, 1, none⟩ = some (.int .i64 t) := (HBX7.out.cell 1).trans (by rw [HCS.out]; rfl)
      have b2 : w7.cell? ⟨w.heap.size, 2, none⟩ = some (.string g) := (HBX7.out.cell 2).trans (by rw [HCS.out]; rfl)
      have b3 : w7.cell? ⟨w.heap.size, 3, none⟩ = some (.int .i64 v) := (HBX7.out.cell 3).trans (by rw [HCS.out]; rfl)
      have b4 : w7.cell? ⟨w.heap.size, 4, none⟩ = some (.int .i64 i) := (HBX7.out.cell 4).trans (by rw [HCS.out]; rfl)
      have hlt : w.heap.size < w7.heap.size := HBX7.out.lt
      have HLN := Lib.hid (show (recL ⟨2, t, g, v, i⟩).length = (9 + 1 + g.size + 8) by rw [HL.out]; simp [be8_len, strL_len]; omega)
      go_wp2_with (first | (go_at_call 23; (with_reducible refine (tagged_2 _).mono ?_); rintro e w' ⟨rfl, rfl⟩) | (go_at_call 24; (with_reducible refine (named_2 _).mono ?_); rintro e w' ⟨rfl, rfl⟩) | (go_at_call 25; (with_reducible refine (valued_2 _).mono ?_); rintro e w' ⟨rfl, rfl⟩) | fail)
      refine bodyPost_ret (v := .tuple #[.slice A7 (9 + 1 + g.size + 8) c7, .int .i64 0]) ?_ rfl ⟨A7, c7, by rw [HLN.out], by rw [HLN.out, HL.out]; exact HO7.out, HB7.out⟩
      simp [results, Try.results10, go_sem]
set_option maxRecDepth 100000 in
set_option maxHeartbeats 1000000 in
theorem rput_3 (t : Int) (g : ByteArray) (v i : Int) (w : World) (hg : g.size ≤ 9223372036854775807) (h : recErr ⟨3, t, g, v, i⟩ = 0) :
    Calls Try.prog 10 #[.agg #[.int .i64 3, .int .i64 t, .string g, .int .i64 v, .int .i64 i]] w (PutBack (recL ⟨3, t, g, v, i⟩) 0 w) := by
  have H := Lib.hid h
  have HL := Lib.hid (show recL ⟨3, t, g, v, i⟩ = (([3] ++ be8 t) ++ be8 v) from by simp [recL, tagK, namK])
  obtain ⟨cs, hcs⟩ : ∃ cs : Array Value, cs = #[.int .i64 3, .int .i64 t, .string g, .int .i64 v, .int .i64 i] := ⟨_, rfl⟩
  have HCS := Lib.hid hcs
  clear h hcs
  go_enter Try.func10, Try.ntmps10
  go_wp2_with fail
  refine (rcheck_is 3 t g v i 0 _ (by omega) H.out).mono ?_
  rintro e w1 ⟨rfl, hb1⟩
  have HB1 := Lib.hid (((Below.refl w.heap.size w).alloc (Nat.le_refl _) (.cells #[.int .i64 3, .int .i64 t, .string g, .int .i64 v, .int .i64 i] 23)).trans (hb1.mono (by simp)))
  have hbox : Blk w1 w.heap.size 23 cs := by rw [HCS.out]; exact (Blk.new w 23 _).below hb1 (by simp)
  have HBX := Lib.hid hbox
  have hz1 : w.heap.size ≤ w1.heap.size := HB1.out.size
  have b0 : w1.cell? ⟨w.heap.size, 0, none⟩ = some (.int .i64 3) := (HBX.out.cell 0).trans (by rw [HCS.out]; rfl)
  have b1 : w1.cell? ⟨w.heap.size, 1, none⟩ = some (.int .i64 t) := (HBX.out.cell 1).trans (by rw [HCS.out]; rfl)
  have b2 : w1.cell? ⟨w.heap.size, 2, none⟩ = some (.string g) := (HBX.out.cell 2).trans (by rw [HCS.out]; rfl)
  have b3 : w1.cell? ⟨w.heap.size, 3, none⟩ = some (.int .i64 v) := (HBX.out.cell 3).trans (by rw [HCS.out]; rfl)
  have b4 : w1.cell? ⟨w.heap.size, 4, none⟩ = some (.int .i64 i) := (HBX.out.cell 4).trans (by rw [HCS.out]; rfl)
  have hlt : w.heap.size < w1.heap.size := HBX.out.lt
  clear hb1 hbox
  have HO2 := Lib.hid (own_new (E := 5) w1 [3] w.heap.size hz1 (by decide) #[.int .u8 3] rfl)
  have HK2 := Lib.hid ((Keeps.refl 5 w1).alloc (.cells #[.int .u8 3] 5))
  have HB2 := Lib.hid (HB1.out.alloc hz1 (.cells #[.int .u8 3] 5))
  go_wp2_with fail
  refine (reight_to _ 1 1 w.heap.size 9 [3] ([3] ++ be8 t) t _ rfl rfl HO2.out (by simp; omega) (by omega)).mono ?_
  rintro e w2 ⟨A2, c2, rfl, ho2, hb2, hk2⟩
  have HO3 := Lib.hid ho2
  have HB3 := Lib.hid (HB2.out.trans hb2)
  have HBX3 := Lib.hid ((HK2.out.trans hk2) _ _ _ (by decide) HBX.out)
  have hz2 : w.heap.size ≤ w2.heap.size := HB3.out.size
  clear ho2 hb2 hk2 b0 b1 b2 b3 b4 hlt HO2 HK2 HB2 HB1
  have b0 : w2.cell? ⟨w.heap.size, 0, none⟩ = some (.int .i64 3) := (HBX3.out.cell 0).trans (by rw [HCS.out]; rfl)
  have b1 : w2.cell? ⟨w.heap.size, 1, none⟩ = some (.int .i64 t) := (HBX3.out.cell 1).trans (by rw [HCS.out]; rfl)
  have b2 : w2.cell? ⟨w.heap.size, 2, none⟩ = some (.string g) := (HBX3.out.cell 2).trans (by rw [HCS.out]; rfl)
  have b3 : w2.cell? ⟨w.heap.size, 3, none⟩ = some (.int .i64 v) := (HBX3.out.cell 3).trans (by rw [HCS.out]; rfl)
  have b4 : w2.cell? ⟨w.heap.size, 4, none⟩ = some (.int .i64 i) := (HBX3.out.cell 4).trans (by rw [HCS.out]; rfl)
  have hlt : w.heap.size < w2.heap.size := HBX3.out.lt
  go_wp2_with (first | (go_at_call 23; (with_reducible refine (tagged_3 _).mono ?_); rintro e w' ⟨rfl, rfl⟩) | (go_at_call 24; (with_reducible refine (named_3 _).mono ?_); rintro e w' ⟨rfl, rfl⟩) | (go_at_call 25; (with_reducible refine (valued_3 _).mono ?_); rintro e w' ⟨rfl, rfl⟩) | fail)
  refine (reight_to _ 9 _ w.heap.size 17 ([3] ++ be8 t) (([3] ++ be8 t) ++ be8 v) v _ rfl rfl HO3.out (by omega) (by omega)).mono ?_
  rintro e w7 ⟨A7, c7, rfl, ho5, hb5, hk5⟩
  have HO7 := Lib.hid ho5
  have HB7 := Lib.hid (HB3.out.trans hb5)
  have HBX7 := Lib.hid (hk5 _ _ _ (by decide) HBX3.out)
  have hz7 : w.heap.size ≤ w7.heap.size := HB7.out.size
  clear ho5 hb5 hk5 b0 b1 b2 b3 b4 hlt
  have b0 : w7.cell? ⟨w.heap.size, 0, none⟩ = some (.int .i64 3) := (HBX7.out.cell 0).trans (by rw [HCS.out]; rfl)
  have b1 : w7.cell? ⟨w.heap.size, 1, none⟩ = some (.int .i64 t) := (HBX7.out.cell 1).trans (by rw [HCS.out]; rfl)
  have b2 : w7.cell? ⟨w.heap.size, 2, none⟩ = some (.string g) := (HBX7.out.cell 2).trans (by rw [HCS.out]; rfl)
  have b3 : w7.cell? ⟨w.heap.size, 3, none⟩ = some (.int .i64 v) := (HBX7.out.cell 3).trans (by rw [HCS.out]; rfl)
  have b4 : w7.cell? ⟨w.heap.size, 4, none⟩ = some (.int .i64 i) := (HBX7.out.cell 4).trans (by rw [HCS.out]; rfl)
  have hlt : w.heap.size < w7.heap.size := HBX7.out.lt
  have HLN := Lib.hid (show (recL ⟨3, t, g, v, i⟩).length = 17 by rw [HL.out]; simp [be8_len])
  go_wp2_with (first | (go_at_call 23; (with_reducible refine (tagged_3 _).mono ?_); rintro e w' ⟨rfl, rfl⟩) | (go_at_call 24; (with_reducible refine (named_3 _).mono ?_); rintro e w' ⟨rfl, rfl⟩) | (go_at_call 25; (with_reducible refine (valued_3 _).mono ?_); rintro e w' ⟨rfl, rfl⟩) | fail)
  refine bodyPost_ret (v := .tuple #[.slice A7 17 c7, .int .i64 0]) ?_ rfl ⟨A7, c7, by rw [HLN.out], by rw [HLN.out, HL.out]; exact HO7.out, HB7.out⟩
  simp [results, Try.results10, go_sem]
set_option maxRecDepth 100000 in
set_option maxHeartbeats 1000000 in
theorem rput_4 (t : Int) (g : ByteArray) (v i : Int) (w : World) (hg : g.size ≤ 9223372036854775807) (h : recErr ⟨4, t, g, v, i⟩ = 0) :
    Calls Try.prog 10 #[.agg #[.int .i64 4, .int .i64 t, .string g, .int .i64 v, .int .i64 i]] w (PutBack (recL ⟨4, t, g, v, i⟩) 0 w) := by
  have H := Lib.hid h
  have HL := Lib.hid (show recL ⟨4, t, g, v, i⟩ = (([4] ++ be8 t) ++ be8 v) from by simp [recL, tagK, namK])
  obtain ⟨cs, hcs⟩ : ∃ cs : Array Value, cs = #[.int .i64 4, .int .i64 t, .string g, .int .i64 v, .int .i64 i] := ⟨_, rfl⟩
  have HCS := Lib.hid hcs
  clear h hcs
  go_enter Try.func10, Try.ntmps10
  go_wp2_with fail
  refine (rcheck_is 4 t g v i 0 _ (by omega) H.out).mono ?_
  rintro e w1 ⟨rfl, hb1⟩
  have HB1 := Lib.hid (((Below.refl w.heap.size w).alloc (Nat.le_refl _) (.cells #[.int .i64 4, .int .i64 t, .string g, .int .i64 v, .int .i64 i] 23)).trans (hb1.mono (by simp)))
  have hbox : Blk w1 w.heap.size 23 cs := by rw [HCS.out]; exact (Blk.new w 23 _).below hb1 (by simp)
  have HBX := Lib.hid hbox
  have hz1 : w.heap.size ≤ w1.heap.size := HB1.out.size
  have b0 : w1.cell? ⟨w.heap.size, 0, none⟩ = some (.int .i64 4) := (HBX.out.cell 0).trans (by rw [HCS.out]; rfl)
  have b1 : w1.cell? ⟨w.heap.size, 1, none⟩ = some (.int .i64 t) := (HBX.out.cell 1).trans (by rw [HCS.out]; rfl)
  have b2 : w1.cell? ⟨w.heap.size, 2, none⟩ = some (.string g) := (HBX.out.cell 2).trans (by rw [HCS.out]; rfl)
  have b3 : w1.cell? ⟨w.heap.size, 3, none⟩ = some (.int .i64 v) := (HBX.out.cell 3).trans (by rw [HCS.out]; rfl)
  have b4 : w1.cell? ⟨w.heap.size, 4, none⟩ = some (.int .i64 i) := (HBX.out.cell 4).trans (by rw [HCS.out]; rfl)
  have hlt : w.heap.size < w1.heap.size := HBX.out.lt
  clear hb1 hbox
  have HO2 := Lib.hid (own_new (E := 5) w1 [4] w.heap.size hz1 (by decide) #[.int .u8 4] rfl)
  have HK2 := Lib.hid ((Keeps.refl 5 w1).alloc (.cells #[.int .u8 4] 5))
  have HB2 := Lib.hid (HB1.out.alloc hz1 (.cells #[.int .u8 4] 5))
  go_wp2_with fail
  refine (reight_to _ 1 1 w.heap.size 9 [4] ([4] ++ be8 t) t _ rfl rfl HO2.out (by simp; omega) (by omega)).mono ?_
  rintro e w2 ⟨A2, c2, rfl, ho2, hb2, hk2⟩
  have HO3 := Lib.hid ho2
  have HB3 := Lib.hid (HB2.out.trans hb2)
  have HBX3 := Lib.hid ((HK2.out.trans hk2) _ _ _ (by decide) HBX.out)
  have hz2 : w.heap.size ≤ w2.heap.size := HB3.out.size
  clear ho2 hb2 hk2 b0 b1 b2 b3 b4 hlt HO2 HK2 HB2 HB1
  have b0 : w2.cell? ⟨w.heap.size, 0, none⟩ = some (.int .i64 4) := (HBX3.out.cell 0).trans (by rw [HCS.out]; rfl)
  have b1 : w2.cell? ⟨w.heap.size, 1, none⟩ = some (.int .i64 t) := (HBX3.out.cell 1).trans (by rw [HCS.out]; rfl)
  have b2 : w2.cell? ⟨w.heap.size, 2, none⟩ = some (.string g) := (HBX3.out.cell 2).trans (by rw [HCS.out]; rfl)
  have b3 : w2.cell? ⟨w.heap.size, 3, none⟩ = some (.int .i64 v) := (HBX3.out.cell 3).trans (by rw [HCS.out]; rfl)
  have b4 : w2.cell? ⟨w.heap.size, 4, none⟩ = some (.int .i64 i) := (HBX3.out.cell 4).trans (by rw [HCS.out]; rfl)
  have hlt : w.heap.size < w2.heap.size := HBX3.out.lt
  go_wp2_with (first | (go_at_call 23; (with_reducible refine (tagged_4 _).mono ?_); rintro e w' ⟨rfl, rfl⟩) | (go_at_call 24; (with_reducible refine (named_4 _).mono ?_); rintro e w' ⟨rfl, rfl⟩) | (go_at_call 25; (with_reducible refine (valued_4 _).mono ?_); rintro e w' ⟨rfl, rfl⟩) | fail)
  refine (reight_to _ 9 _ w.heap.size 17 ([4] ++ be8 t) (([4] ++ be8 t) ++ be8 v) v _ rfl rfl HO3.out (by omega) (by omega)).mono ?_
  rintro e w7 ⟨A7, c7, rfl, ho5, hb5, hk5⟩
  have HO7 := Lib.hid ho5
  have HB7 := Lib.hid (HB3.out.trans hb5)
  have HBX7 := Lib.hid (hk5 _ _ _ (by decide) HBX3.out)
  have hz7 : w.heap.size ≤ w7.heap.size := HB7.out.size
  clear ho5 hb5 hk5 b0 b1 b2 b3 b4 hlt
  have b0 : w7.cell? ⟨w.heap.size, 0, none⟩ = some (.int .i64 4) := (HBX7.out.cell 0).trans (by rw [HCS.out]; rfl)
  have b1 : w7.cell? ⟨w.heap.size, 1, none⟩ = some (.int .i64 t) := (HBX7.out.cell 1).trans (by rw [HCS.out]; rfl)
  have b2 : w7.cell? ⟨w.heap.size, 2, none⟩ = some (.string g) := (HBX7.out.cell 2).trans (by rw [HCS.out]; rfl)
  have b3 : w7.cell? ⟨w.heap.size, 3, none⟩ = some (.int .i64 v) := (HBX7.out.cell 3).trans (by rw [HCS.out]; rfl)
  have b4 : w7.cell? ⟨w.heap.size, 4, none⟩ = some (.int .i64 i) := (HBX7.out.cell 4).trans (by rw [HCS.out]; rfl)
  have hlt : w.heap.size < w7.heap.size := HBX7.out.lt
  have HLN := Lib.hid (show (recL ⟨4, t, g, v, i⟩).length = 17 by rw [HL.out]; simp [be8_len])
  go_wp2_with (first | (go_at_call 23; (with_reducible refine (tagged_4 _).mono ?_); rintro e w' ⟨rfl, rfl⟩) | (go_at_call 24; (with_reducible refine (named_4 _).mono ?_); rintro e w' ⟨rfl, rfl⟩) | (go_at_call 25; (with_reducible refine (valued_4 _).mono ?_); rintro e w' ⟨rfl, rfl⟩) | fail)
  refine bodyPost_ret (v := .tuple #[.slice A7 17 c7, .int .i64 0]) ?_ rfl ⟨A7, c7, by rw [HLN.out], by rw [HLN.out, HL.out]; exact HO7.out, HB7.out⟩
  simp [results, Try.results10, go_sem]
set_option maxRecDepth 100000 in
set_option maxHeartbeats 1000000 in
theorem rput_5 (t : Int) (g : ByteArray) (v i : Int) (w : World) (hg : g.size ≤ 9223372036854775807) (h : recErr ⟨5, t, g, v, i⟩ = 0) :
    Calls Try.prog 10 #[.agg #[.int .i64 5, .int .i64 t, .string g, .int .i64 v, .int .i64 i]] w (PutBack (recL ⟨5, t, g, v, i⟩) 0 w) := by
  have H := Lib.hid h
  have HL := Lib.hid (show recL ⟨5, t, g, v, i⟩ = (([5] ++ be8 t) ++ be8 i) from by simp [recL, tagK, namK])
  obtain ⟨cs, hcs⟩ : ∃ cs : Array Value, cs = #[.int .i64 5, .int .i64 t, .string g, .int .i64 v, .int .i64 i] := ⟨_, rfl⟩
  have HCS := Lib.hid hcs
  clear h hcs
  go_enter Try.func10, Try.ntmps10
  go_wp2_with fail
  refine (rcheck_is 5 t g v i 0 _ (by omega) H.out).mono ?_
  rintro e w1 ⟨rfl, hb1⟩
  have HB1 := Lib.hid (((Below.refl w.heap.size w).alloc (Nat.le_refl _) (.cells #[.int .i64 5, .int .i64 t, .string g, .int .i64 v, .int .i64 i] 23)).trans (hb1.mono (by simp)))
  have hbox : Blk w1 w.heap.size 23 cs := by rw [HCS.out]; exact (Blk.new w 23 _).below hb1 (by simp)
  have HBX := Lib.hid hbox
  have hz1 : w.heap.size ≤ w1.heap.size := HB1.out.size
  have b0 : w1.cell? ⟨w.heap.size, 0, none⟩ = some (.int .i64 5) := (HBX.out.cell 0).trans (by rw [HCS.out]; rfl)
  have b1 : w1.cell? ⟨w.heap.size, 1, none⟩ = some (.int .i64 t) := (HBX.out.cell 1).trans (by rw [HCS.out]; rfl)
  have b2 : w1.cell? ⟨w.heap.size, 2, none⟩ = some (.string g) := (HBX.out.cell 2).trans (by rw [HCS.out]; rfl)
  have b3 : w1.cell? ⟨w.heap.size, 3, none⟩ = some (.int .i64 v) := (HBX.out.cell 3).trans (by rw [HCS.out]; rfl)
  have b4 : w1.cell? ⟨w.heap.size, 4, none⟩ = some (.int .i64 i) := (HBX.out.cell 4).trans (by rw [HCS.out]; rfl)
  have hlt : w.heap.size < w1.heap.size := HBX.out.lt
  clear hb1 hbox
  have HO2 := Lib.hid (own_new (E := 5) w1 [5] w.heap.size hz1 (by decide) #[.int .u8 5] rfl)
  have HK2 := Lib.hid ((Keeps.refl 5 w1).alloc (.cells #[.int .u8 5] 5))
  have HB2 := Lib.hid (HB1.out.alloc hz1 (.cells #[.int .u8 5] 5))
  go_wp2_with fail
  refine (reight_to _ 1 1 w.heap.size 9 [5] ([5] ++ be8 t) t _ rfl rfl HO2.out (by simp; omega) (by omega)).mono ?_
  rintro e w2 ⟨A2, c2, rfl, ho2, hb2, hk2⟩
  have HO3 := Lib.hid ho2
  have HB3 := Lib.hid (HB2.out.trans hb2)
  have HBX3 := Lib.hid ((HK2.out.trans hk2) _ _ _ (by decide) HBX.out)
  have hz2 : w.heap.size ≤ w2.heap.size := HB3.out.size
  clear ho2 hb2 hk2 b0 b1 b2 b3 b4 hlt HO2 HK2 HB2 HB1
  have b0 : w2.cell? ⟨w.heap.size, 0, none⟩ = some (.int .i64 5) := (HBX3.out.cell 0).trans (by rw [HCS.out]; rfl)
  have b1 : w2.cell? ⟨w.heap.size, 1, none⟩ = some (.int .i64 t) := (HBX3.out.cell 1).trans (by rw [HCS.out]; rfl)
  have b2 : w2.cell? ⟨w.heap.size, 2, none⟩ = some (.string g) := (HBX3.out.cell 2).trans (by rw [HCS.out]; rfl)
  have b3 : w2.cell? ⟨w.heap.size, 3, none⟩ = some (.int .i64 v) := (HBX3.out.cell 3).trans (by rw [HCS.out]; rfl)
  have b4 : w2.cell? ⟨w.heap.size, 4, none⟩ = some (.int .i64 i) := (HBX3.out.cell 4).trans (by rw [HCS.out]; rfl)
  have hlt : w.heap.size < w2.heap.size := HBX3.out.lt
  go_wp2_with (first | (go_at_call 23; (with_reducible refine (tagged_5 _).mono ?_); rintro e w' ⟨rfl, rfl⟩) | (go_at_call 24; (with_reducible refine (named_5 _).mono ?_); rintro e w' ⟨rfl, rfl⟩) | (go_at_call 25; (with_reducible refine (valued_5 _).mono ?_); rintro e w' ⟨rfl, rfl⟩) | fail)
  refine (reight_to _ 9 _ w.heap.size 17 ([5] ++ be8 t) (([5] ++ be8 t) ++ be8 i) i _ rfl rfl HO3.out (by omega) (by omega)).mono ?_
  rintro e w7 ⟨A7, c7, rfl, ho5, hb5, hk5⟩
  have HO7 := Lib.hid ho5
  have HB7 := Lib.hid (HB3.out.trans hb5)
  have HBX7 := Lib.hid (hk5 _ _ _ (by decide) HBX3.out)
  have hz7 : w.heap.size ≤ w7.heap.size := HB7.out.size
  clear ho5 hb5 hk5 b0 b1 b2 b3 b4 hlt
  have b0 : w7.cell? ⟨w.heap.size, 0, none⟩ = some (.int .i64 5) := (HBX7.out.cell 0).trans (by rw [HCS.out]; rfl)
  have b1 : w7.cell? ⟨w.heap.size, 1, none⟩ = some (.int .i64 t) := (HBX7.out.cell 1).trans (by rw [HCS.out]; rfl)
  have b2 : w7.cell? ⟨w.heap.size, 2, none⟩ = some (.string g) := (HBX7.out.cell 2).trans (by rw [HCS.out]; rfl)
  have b3 : w7.cell? ⟨w.heap.size, 3, none⟩ = some (.int .i64 v) := (HBX7.out.cell 3).trans (by rw [HCS.out]; rfl)
  have b4 : w7.cell? ⟨w.heap.size, 4, none⟩ = some (.int .i64 i) := (HBX7.out.cell 4).trans (by rw [HCS.out]; rfl)
  have hlt : w.heap.size < w7.heap.size := HBX7.out.lt
  have HLN := Lib.hid (show (recL ⟨5, t, g, v, i⟩).length = 17 by rw [HL.out]; simp [be8_len])
  go_wp2_with (first | (go_at_call 23; (with_reducible refine (tagged_5 _).mono ?_); rintro e w' ⟨rfl, rfl⟩) | (go_at_call 24; (with_reducible refine (named_5 _).mono ?_); rintro e w' ⟨rfl, rfl⟩) | (go_at_call 25; (with_reducible refine (valued_5 _).mono ?_); rintro e w' ⟨rfl, rfl⟩) | fail)
  refine bodyPost_ret (v := .tuple #[.slice A7 17 c7, .int .i64 0]) ?_ rfl ⟨A7, c7, by rw [HLN.out], by rw [HLN.out, HL.out]; exact HO7.out, HB7.out⟩
  simp [results, Try.results10, go_sem]
set_option maxRecDepth 100000 in
set_option maxHeartbeats 1000000 in
theorem rput_6 (t : Int) (g : ByteArray) (v i : Int) (w : World) (hg : g.size ≤ 9223372036854775807) (h : recErr ⟨6, t, g, v, i⟩ = 0) :
    Calls Try.prog 10 #[.agg #[.int .i64 6, .int .i64 t, .string g, .int .i64 v, .int .i64 i]] w (PutBack (recL ⟨6, t, g, v, i⟩) 0 w) := by
  have H := Lib.hid h
  have HL := Lib.hid (show recL ⟨6, t, g, v, i⟩ = ((([6] ++ be8 t) ++ be8 i) ++ be8 v) from by simp [recL, tagK, namK])
  obtain ⟨cs, hcs⟩ : ∃ cs : Array Value, cs = #[.int .i64 6, .int .i64 t, .string g, .int .i64 v, .int .i64 i] := ⟨_, rfl⟩
  have HCS := Lib.hid hcs
  clear h hcs
  go_enter Try.func10, Try.ntmps10
  go_wp2_with fail
  refine (rcheck_is 6 t g v i 0 _ (by omega) H.out).mono ?_
  rintro e w1 ⟨rfl, hb1⟩
  have HB1 := Lib.hid (((Below.refl w.heap.size w).alloc (Nat.le_refl _) (.cells #[.int .i64 6, .int .i64 t, .string g, .int .i64 v, .int .i64 i] 23)).trans (hb1.mono (by simp)))
  have hbox : Blk w1 w.heap.size 23 cs := by rw [HCS.out]; exact (Blk.new w 23 _).below hb1 (by simp)
  have HBX := Lib.hid hbox
  have hz1 : w.heap.size ≤ w1.heap.size := HB1.out.size
  have b0 : w1.cell? ⟨w.heap.size, 0, none⟩ = some (.int .i64 6) := (HBX.out.cell 0).trans (by rw [HCS.out]; rfl)
  have b1 : w1.cell? ⟨w.heap.size, 1, none⟩ = some (.int .i64 t) := (HBX.out.cell 1).trans (by rw [HCS.out]; rfl)
  have b2 : w1.cell? ⟨w.heap.size, 2, none⟩ = some (.string g) := (HBX.out.cell 2).trans (by rw [HCS.out]; rfl)
  have b3 : w1.cell? ⟨w.heap.size, 3, none⟩ = some (.int .i64 v) := (HBX.out.cell 3).trans (by rw [HCS.out]; rfl)
  have b4 : w1.cell? ⟨w.heap.size, 4, none⟩ = some (.int .i64 i) := (HBX.out.cell 4).trans (by rw [HCS.out]; rfl)
  have hlt : w.heap.size < w1.heap.size := HBX.out.lt
  clear hb1 hbox
  have HO2 := Lib.hid (own_new (E := 5) w1 [6] w.heap.size hz1 (by decide) #[.int .u8 6] rfl)
  have HK2 := Lib.hid ((Keeps.refl 5 w1).alloc (.cells #[.int .u8 6] 5))
  have HB2 := Lib.hid (HB1.out.alloc hz1 (.cells #[.int .u8 6] 5))
  go_wp2_with fail
  refine (reight_to _ 1 1 w.heap.size 9 [6] ([6] ++ be8 t) t _ rfl rfl HO2.out (by simp; omega) (by omega)).mono ?_
  rintro e w2 ⟨A2, c2, rfl, ho2, hb2, hk2⟩
  have HO3 := Lib.hid ho2
  have HB3 := Lib.hid (HB2.out.trans hb2)
  have HBX3 := Lib.hid ((HK2.out.trans hk2) _ _ _ (by decide) HBX.out)
  have hz2 : w.heap.size ≤ w2.heap.size := HB3.out.size
  clear ho2 hb2 hk2 b0 b1 b2 b3 b4 hlt HO2 HK2 HB2 HB1
  have b0 : w2.cell? ⟨w.heap.size, 0, none⟩ = some (.int .i64 6) := (HBX3.out.cell 0).trans (by rw [HCS.out]; rfl)
  have b1 : w2.cell? ⟨w.heap.size, 1, none⟩ = some (.int .i64 t) := (HBX3.out.cell 1).trans (by rw [HCS.out]; rfl)
  have b2 : w2.cell? ⟨w.heap.size, 2, none⟩ = some (.string g) := (HBX3.out.cell 2).trans (by rw [HCS.out]; rfl)
  have b3 : w2.cell? ⟨w.heap.size, 3, none⟩ = some (.int .i64 v) := (HBX3.out.cell 3).trans (by rw [HCS.out]; rfl)
  have b4 : w2.cell? ⟨w.heap.size, 4, none⟩ = some (.int .i64 i) := (HBX3.out.cell 4).trans (by rw [HCS.out]; rfl)
  have hlt : w.heap.size < w2.heap.size := HBX3.out.lt
  go_wp2_with (first | (go_at_call 23; (with_reducible refine (tagged_6 _).mono ?_); rintro e w' ⟨rfl, rfl⟩) | (go_at_call 24; (with_reducible refine (named_6 _).mono ?_); rintro e w' ⟨rfl, rfl⟩) | (go_at_call 25; (with_reducible refine (valued_6 _).mono ?_); rintro e w' ⟨rfl, rfl⟩) | fail)
  refine (reight_to _ 9 _ w.heap.size 17 ([6] ++ be8 t) (([6] ++ be8 t) ++ be8 i) i _ rfl rfl HO3.out (by omega) (by omega)).mono ?_
  rintro e w7 ⟨A7, c7, rfl, ho5, hb5, hk5⟩
  have HO7 := Lib.hid ho5
  have HB7 := Lib.hid (HB3.out.trans hb5)
  have HBX7 := Lib.hid (hk5 _ _ _ (by decide) HBX3.out)
  have hz7 : w.heap.size ≤ w7.heap.size := HB7.out.size
  clear ho5 hb5 hk5 b0 b1 b2 b3 b4 hlt
  have b0 : w7.cell? ⟨w.heap.size, 0, none⟩ = some (.int .i64 6) := (HBX7.out.cell 0).trans (by rw [HCS.out]; rfl)
  have b1 : w7.cell? ⟨w.heap.size, 1, none⟩ = some (.int .i64 t) := (HBX7.out.cell 1).trans (by rw [HCS.out]; rfl)
  have b2 : w7.cell? ⟨w.heap.size, 2, none⟩ = some (.string g) := (HBX7.out.cell 2).trans (by rw [HCS.out]; rfl)
  have b3 : w7.cell? ⟨w.heap.size, 3, none⟩ = some (.int .i64 v) := (HBX7.out.cell 3).trans (by rw [HCS.out]; rfl)
  have b4 : w7.cell? ⟨w.heap.size, 4, none⟩ = some (.int .i64 i) := (HBX7.out.cell 4).trans (by rw [HCS.out]; rfl)
  have hlt : w.heap.size < w7.heap.size := HBX7.out.lt
  go_wp2_with (first | (go_at_call 23; (with_reducible refine (tagged_6 _).mono ?_); rintro e w' ⟨rfl, rfl⟩) | (go_at_call 24; (with_reducible refine (named_6 _).mono ?_); rintro e w' ⟨rfl, rfl⟩) | (go_at_call 25; (with_reducible refine (valued_6 _).mono ?_); rintro e w' ⟨rfl, rfl⟩) | fail)
  refine (reight_to _ 17 _ w.heap.size 25 (([6] ++ be8 t) ++ be8 i) ((([6] ++ be8 t) ++ be8 i) ++ be8 v) v _ rfl rfl HO7.out (by omega) (by omega)).mono ?_
  rintro e w8 ⟨A8, c8, rfl, ho5, hb5, hk5⟩
  have HO8 := Lib.hid ho5
  have HB8 := Lib.hid (HB7.out.trans hb5)
  have HBX8 := Lib.hid (hk5 _ _ _ (by decide) HBX7.out)
  have hz8 : w.heap.size ≤ w8.heap.size := HB8.out.size
  clear ho5 hb5 hk5 b0 b1 b2 b3 b4 hlt
  have b0 : w8.cell? ⟨w.heap.size, 0, none⟩ = some (.int .i64 6) := (HBX8.out.cell 0).trans (by rw [HCS.out]; rfl)
  have b1 : w8.cell? ⟨w.heap.size, 1, none⟩ = some (.int .i64 t) := (HBX8.out.cell 1).trans (by rw [HCS.out]; rfl)
  have b2 : w8.cell? ⟨w.heap.size, 2, none⟩ = some (.string g) := (HBX8.out.cell 2).trans (by rw [HCS.out]; rfl)
  have b3 : w8.cell? ⟨w.heap.size, 3, none⟩ = some (.int .i64 v) := (HBX8.out.cell 3).trans (by rw [HCS.out]; rfl)
  have b4 : w8.cell? ⟨w.heap.size, 4, none⟩ = some (.int .i64 i) := (HBX8.out.cell 4).trans (by rw [HCS.out]; rfl)
  have hlt : w.heap.size < w8.heap.size := HBX8.out.lt
  have HLN := Lib.hid (show (recL ⟨6, t, g, v, i⟩).length = 25 by rw [HL.out]; simp [be8_len])
  go_wp2_with (first | (go_at_call 23; (with_reducible refine (tagged_6 _).mono ?_); rintro e w' ⟨rfl, rfl⟩) | (go_at_call 24; (with_reducible refine (named_6 _).mono ?_); rintro e w' ⟨rfl, rfl⟩) | (go_at_call 25; (with_reducible refine (valued_6 _).mono ?_); rintro e w' ⟨rfl, rfl⟩) | fail)
  refine bodyPost_ret (v := .tuple #[.slice A8 25 c8, .int .i64 0]) ?_ rfl ⟨A8, c8, by rw [HLN.out], by rw [HLN.out, HL.out]; exact HO8.out, HB8.out⟩
  simp [results, Try.results10, go_sem]
theorem rput_any (r : Rec) (w : World) (Q : List Int) (n : Int) (hg : r.g.size ≤ 9223372036854775807) (h : putR r = (Q, n)) :
    Calls Try.prog 10 #[.agg r.cells] w (PutBack Q n w) := by
  unfold putR at h
  by_cases h0 : recErr r = 0
  · rw [if_pos h0] at h
    cases h
    have hk := ok_kind h0
    have ht := ok_tag h0
    obtain ⟨k, t, g, v, i⟩ := r
    dsimp only at hk ht hg
    rcases hk with rfl | rfl | rfl | rfl | rfl | rfl
    · exact rput_1 t g v i w (ht (.inl rfl)) h0
    · exact rput_2 t g v i w (ht (.inr rfl)) h0
    · exact rput_3 t g v i w hg h0
    · exact rput_4 t g v i w hg h0
    · exact rput_5 t g v i w hg h0
    · exact rput_6 t g v i w hg h0
  · rw [if_neg h0] at h
    cases h
    obtain ⟨k, t, g, v, i⟩ := r
    exact rput_err k t g v i _ w hg rfl h0
end Go.Proofs.Ytognidoohinipaa
