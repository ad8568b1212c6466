/-
  What is proved here: a record's bytes, as Put of package record lays them (chapter 11). Conditions: a tag's length.
-/
import Derived.Test.YtognidoohinipaaRecKit
namespace Go.Proofs.Ytognidoohinipaa
open Go.RowKit Go.Deep Go.Joins Go.WideShapes

theorem check_is (k t : Int) (g : ByteArray) (v i n : Int) (w : World) (hg : g.size ≤ 9223372036854775807) (h : recErr ⟨k, t, g, v, i⟩ = n) :
    Calls Try.prog 11 #[.agg #[.int .i64 k, .int .i64 t, .string g, .int .i64 v, .int .i64 i]] w fun e w' => e = .returned (.int .i64 n) ∧ Below w.heap.size w w' := by
  subst h
  exact check_any ⟨k, t, g, v, i⟩ w hg
theorem putBack_nil {n : Int} {w w' : World} {e : Ending} (he : e = .returned (.tuple #[.slice none 0 0, .int .i64 n])) (hb : Below w.heap.size w w') : PutBack [] n w e w' :=
  ⟨none, 0, he, OwnG.nil_ _ _ _ _, hb⟩
set_option maxHeartbeats 1000000 in
theorem put_err (k t : Int) (g : ByteArray) (v i n : Int) (w : World) (hg : g.size ≤ 9223372036854775807) (h : recErr ⟨k, t, g, v, i⟩ = n) (h0 : n ≠ 0) :
    Calls Try.prog 9 #[.agg #[.int .i64 k, .int .i64 t, .string g, .int .i64 v, .int .i64 i]] w (PutBack [] n w) := by
  have H := Lib.hid h
  have hn : (n != 0) = true := by simp [h0]
  clear h h0
  go_enter Try.func9, Try.ntmps9
  go_wp2_with fail
  refine (check_is k t g v i n _ hg H.out).mono ?_
  rintro e w1 ⟨rfl, hb1⟩
  have HB := Lib.hid (((Below.refl w.heap.size w).alloc (Nat.le_refl _) (.cells #[.int .i64 k, .int .i64 t, .string g, .int .i64 v, .int .i64 i] 23)).trans (hb1.mono (by simp)))
  clear hb1
  go_wp2_with fail
  refine bodyPost_ret (v := .tuple #[.slice none 0 0, .int .i64 n]) ?_ rfl (putBack_nil rfl HB.out)
  simp [results, Try.results9, go_sem]
theorem eight_to (A : Option Addr) (n c base m : Nat) (L l M : List Int) (d gl cl : Nat) (w : World) (hd : l.length = d) (hm : n + 8 * d = m) (hM : L ++ beL l = M) (hown : OwnG Tr w base 5 1 (.slice A n c) n (L.map (Value.int .u8))) (hl : Blk w gl 3 (l.map (Value.int .i64)).toArray) (hbase : base ≤ w.heap.size) (hn : n ≤ 1000) (hll : d ≤ 100) :
    Calls Try.prog 21 #[.slice A n c, .slice (some ⟨gl, 0, none⟩) d cl] w (EightBack base m M w) := by
  subst hd hm hM
  exact eight_any A n c base L l gl cl w hown hl hbase hn hll

set_option maxRecDepth 100000 in
set_option maxHeartbeats 2000000 in
theorem put_1 (t : Int) (g : ByteArray) (v i : Int) (w : World) (hg : g.size ≤ 16) (h : recErr ⟨1, t, g, v, i⟩ = 0) :
    Calls Try.prog 9 #[.agg #[.int .i64 1, .int .i64 t, .string g, .int .i64 v, .int .i64 i]] w (PutBack (recL ⟨1, t, g, v, i⟩) 0 w) := by
  have H := Lib.hid h
  have HL := Lib.hid (show recL ⟨1, t, g, v, i⟩ = (([1] ++ be8 t) ++ [(g.size : Int)] ++ strL g) ++ beL [v] from have e : (g.size : Int) % 256 = (g.size : Int) := (by omega); by simp [recL, tagK, namK, beL, e])
  obtain ⟨cs, hcs⟩ : ∃ cs : Array Value, cs = #[.int .i64 1, .int .i64 t, .string g, .int .i64 v, .int .i64 i] := ⟨_, rfl⟩
  have HCS := Lib.hid hcs
  clear h hcs
  go_enter Try.func9, Try.ntmps9
  go_wp2_with fail
  refine (check_is 1 t g v i 0 _ (by omega) H.out).mono ?_
  rintro e w1 ⟨rfl, hb1⟩
  have HB1 := Lib.hid (((Below.refl w.heap.size w).alloc (Nat.le_refl _) (.cells #[.int .i64 1, .int .i64 t, .string g, .int .i64 v, .int .i64 i] 23)).trans (hb1.mono (by simp)))
  have hbox : Blk w1 w.heap.size 23 cs := by rw [HCS.out]; exact (Blk.new w 23 _).below hb1 (by simp)
  have HBX := Lib.hid hbox
  have hz1 : w.heap.size ≤ w1.heap.size := HB1.out.size
  have b0 : w1.cell? ⟨w.heap.size, 0, none⟩ = some (.int .i64 1) := (HBX.out.cell 0).trans (by rw [HCS.out]; rfl)
  have b1 : w1.cell? ⟨w.heap.size, 1, none⟩ = some (.int .i64 t) := (HBX.out.cell 1).trans (by rw [HCS.out]; rfl)
  have b2 : w1.cell? ⟨w.heap.size, 2, none⟩ = some (.string g) := (HBX.out.cell 2).trans (by rw [HCS.out]; rfl)
  have b3 : w1.cell? ⟨w.heap.size, 3, none⟩ = some (.int .i64 v) := (HBX.out.cell 3).trans (by rw [HCS.out]; rfl)
  have b4 : w1.cell? ⟨w.heap.size, 4, none⟩ = some (.int .i64 i) := (HBX.out.cell 4).trans (by rw [HCS.out]; rfl)
  have hlt : w.heap.size < w1.heap.size := HBX.out.lt
  clear hb1 hbox
  go_upto_region 4 with fail
  have HO2 := Lib.hid ((own_new (E := 5) w1 [1] w.heap.size hz1 (by decide) #[.int .u8 1] rfl).alloc (.cells #[.int .i64 t] 3))
  have hl2 := Blk.new (w1.alloc (.cells #[.int .u8 1] 5)) 3 #[.int .i64 t]
  rw [World.size_alloc] at hl2
  have HL2 := Lib.hid hl2
  clear hl2
  have HK2 := Lib.hid (((Keeps.refl 5 w1).alloc (.cells #[.int .u8 1] 5)).alloc (.cells #[.int .i64 t] 3))
  have HB2 := Lib.hid (((HB1.out.alloc hz1 (.cells #[.int .u8 1] 5))).alloc (by simp; omega) (.cells #[.int .i64 t] 3))
  go_wp2_with fail
  refine (eight_to _ 1 1 w.heap.size 9 [1] [t] ([1] ++ be8 t) 1 _ 1 _ rfl rfl (by simp [beL]) HO2.out HL2.out (by simp; omega) (by omega) (by omega)).mono ?_
  rintro e w2 ⟨A2, c2, rfl, ho2, hb2, hk2⟩
  have HO3 := Lib.hid ho2
  have HB3 := Lib.hid (HB2.out.trans hb2)
  have HBX3 := Lib.hid ((HK2.out.trans hk2) _ _ _ (by decide) HBX.out)
  have hz2 : w.heap.size ≤ w2.heap.size := HB3.out.size
  clear ho2 hb2 hk2 b0 b1 b2 b3 b4 hlt HO2 HL2 HK2 HB2 HB1
  have b0 : w2.cell? ⟨w.heap.size, 0, none⟩ = some (.int .i64 1) := (HBX3.out.cell 0).trans (by rw [HCS.out]; rfl)
  have b1 : w2.cell? ⟨w.heap.size, 1, none⟩ = some (.int .i64 t) := (HBX3.out.cell 1).trans (by rw [HCS.out]; rfl)
  have b2 : w2.cell? ⟨w.heap.size, 2, none⟩ = some (.string g) := (HBX3.out.cell 2).trans (by rw [HCS.out]; rfl)
  have b3 : w2.cell? ⟨w.heap.size, 3, none⟩ = some (.int .i64 v) := (HBX3.out.cell 3).trans (by rw [HCS.out]; rfl)
  have b4 : w2.cell? ⟨w.heap.size, 4, none⟩ = some (.int .i64 i) := (HBX3.out.cell 4).trans (by rw [HCS.out]; rfl)
  have hlt : w.heap.size < w2.heap.size := HBX3.out.lt
  go_upto_region 8 with fail
  go_cut [5] (fun s5 wx => ∃ A3 c3, s5 = .slice A3 (9 + 1 + g.size) c3 ∧ OwnG Tr wx w.heap.size 5 1 (.slice A3 (9 + 1 + g.size) c3) (9 + 1 + g.size) ((([1] ++ be8 t) ++ [(g.size : Int)] ++ strL g).map (Value.int .u8)) ∧ Below w.heap.size w wx ∧ Keeps 5 w2 wx)
  case first =>
    have ew : IntKind.u8.wrap (g.size : Int) = (g.size : Int) := by simp [IntKind.wrap, IntKind.bits, IntKind.signed]; omega
    have k3 : 9 + 1 ≤ maxLen := by unfold maxLen; omega
    have k4 : (9 + 1) * 1 ≤ 140737488355328 := by omega
    have k5 : 9 + 1 + g.size ≤ maxLen := by unfold maxLen; omega
    have k6 : 9 + 1 + g.size ≤ 140737488355328 := by omega
    have HOA := Lib.hid ((HO3.out.alloc (.cells #[.int .u8 (g.size : Int)] 5)).below ((Below.refl _ _).drew))
    have HBA := Lib.hid ((HB3.out.alloc hz2 (.cells #[.int .u8 (g.size : Int)] 5)).drew)
    have HKA := Lib.hid (((Keeps.refl 5 w2).alloc (.cells #[.int .u8 (g.size : Int)] 5)).drew)
    have hza : w.heap.size ≤ (w2.alloc (.cells #[.int .u8 (g.size : Int)] 5)).drew.heap.size := HBA.out.size
    have HN1 := Lib.hid (ints_one .u8 (g.size : Int)).1
    obtain ⟨i0, hi0, hy0, hy1, hy2⟩ := info_parts Bytes.infoE
    have HI0 := Lib.hid hi0
    have HY0 := Lib.hid hy0
    have HY1 := Lib.hid hy1
    have HY2 := Lib.hid hy2
    clear hi0 hy0 hy1 hy2
    go_region_held3 (fun w' => w'.cell? ⟨w.heap.size, 2, none⟩ = some (.string g)) (first | go_keep | exact HCB.out | exact HCC.out)
      (first
        | (refine step_append_G rfl (.tmp 24) (.tmp 29) 24 rfl Tr w.heap.size 5 i0 _ 1 1 Try.underlying24 HI0.out HY0.out HY1.out HY2.out rfl (by omega) _ 9 _ rfl HOA.out ⟨w2.heap.size, 0, none⟩ 1 1 [.int .u8 (g.size : Int)] rfl rfl (World.news_of_block (cs := #[.int .u8 (g.size : Int)]) (t := 5) (fr := (0, 0)) (heap_alloc_new w2 _)) HN1.out k3 k4 hza (tr_all _) (tr_all _) (tr_all _) ?_; intro v3 w3 hown3 hgrow3; obtain ⟨A3, k3', rfl⟩ := hown3.slice; have HOB := Lib.hid (show OwnG Tr w3 w.heap.size 5 1 (.slice A3 (9 + 1) k3') (9 + 1) ((([1] ++ be8 t) ++ [(g.size : Int)]).map (Value.int .u8)) from by rw [List.map_append]; exact hown3); have HBB := Lib.hid (HBA.out.grown hgrow3 hza (fun q hq => (HOA.out.1.lt q hq).1)); have HKB := Lib.hid (HKA.out.trans (Keeps.grown HOA.out hgrow3)); have hzb := HBB.out.size; have HCB := Lib.hid (((HKB.out _ _ _ (by decide) HBX3.out).cell 2).trans (show cs[2]? = some (.string g) by rw [HCS.out]; rfl)); clear hown3 hgrow3)
        | (refine step_append_str rfl (.tmp 30) (.tmp 32) 24 9 rfl w.heap.size 5 i0 Try.underlying24 Try.underlying9 HI0.out HY0.out HY1.out HY2.out _ (9 + 1) _ rfl HOB.out g rfl k5 k6 hzb ?_; intro v4 w4 hown4 hgrow4; obtain ⟨A4, k4', rfl⟩ := hown4.slice; have HOC := Lib.hid hown4; have HBC := Lib.hid (HBB.out.grown hgrow4 hzb (fun q hq => (HOB.out.1.lt q hq).1)); have HKC := Lib.hid (HKB.out.trans (Keeps.grown HOB.out hgrow4)); have HCC := Lib.hid (((HKC.out _ _ _ (by decide) HBX3.out).cell 2).trans (show cs[2]? = some (.string g) by rw [HCS.out]; rfl)); clear hown4 hgrow4))
    go_wp2_with fail
    go_meet
    exact ⟨A4, k4', rfl, HOC.out, HBC.out, HKC.out⟩
  case rest =>
  obtain ⟨A3, c3, rfl, ho3, hb3, hk3⟩ := hcut
  obtain ⟨w3, rfl⟩ : ∃ wq : World, wq = wc := ⟨_, rfl⟩
  have HO4 := Lib.hid ho3
  have HB4 := Lib.hid hb3
  have HBX4 := Lib.hid (hk3 _ _ _ (by decide) HBX3.out)
  have hz3 : w.heap.size ≤ w3.heap.size := HB4.out.size
  clear ho3 hb3 hk3 b0 b1 b2 b3 b4 hlt HO3 HB3 HBX3
  have b0 : w3.cell? ⟨w.heap.size, 0, none⟩ = some (.int .i64 1) := (HBX4.out.cell 0).trans (by rw [HCS.out]; rfl)
  have b1 : w3.cell? ⟨w.heap.size, 1, none⟩ = some (.int .i64 t) := (HBX4.out.cell 1).trans (by rw [HCS.out]; rfl)
  have b2 : w3.cell? ⟨w.heap.size, 2, none⟩ = some (.string g) := (HBX4.out.cell 2).trans (by rw [HCS.out]; rfl)
  have b3 : w3.cell? ⟨w.heap.size, 3, none⟩ = some (.int .i64 v) := (HBX4.out.cell 3).trans (by rw [HCS.out]; rfl)
  have b4 : w3.cell? ⟨w.heap.size, 4, none⟩ = some (.int .i64 i) := (HBX4.out.cell 4).trans (by rw [HCS.out]; rfl)
  have hlt : w.heap.size < w3.heap.size := HBX4.out.lt
  have HO5 := Lib.hid (HO4.out.alloc (.cells #[.int .i64 v] 3))
  have HL5 := Lib.hid (Blk.new w3 3 #[.int .i64 v])
  have HB5 := Lib.hid (HB4.out.alloc (by omega) (.cells #[.int .i64 v] 3))
  go_wp2_with fail
  refine (eight_to _ (9 + 1 + g.size) _ w.heap.size ((9 + 1 + g.size) + 8) (([1] ++ be8 t) ++ [(g.size : Int)] ++ strL g) [v] ((([1] ++ be8 t) ++ [(g.size : Int)] ++ strL g) ++ beL [v]) 1 _ 1 _ rfl rfl rfl HO5.out HL5.out (by simp; omega) (by omega) (by omega)).mono ?_
  rintro e w5 ⟨A5, c5, rfl, ho5, hb5, _⟩
  have HO6 := Lib.hid ho5
  have HB6 := Lib.hid (HB5.out.trans hb5)
  have HLN := Lib.hid (show (recL ⟨1, t, g, v, i⟩).length = (9 + 1 + g.size) + 8 by rw [HL.out]; simp [be8_len, beL_len, strL_len]; omega)
  clear ho5 hb5 b0 b1 b2 b3 b4
  go_wp2_with fail
  refine bodyPost_ret (v := .tuple #[.slice A5 ((9 + 1 + g.size) + 8) c5, .int .i64 0]) ?_ rfl ⟨A5, c5, by rw [HLN.out], by rw [HLN.out, HL.out]; exact HO6.out, HB6.out⟩
  simp [results, Try.results9, go_sem]
set_option maxRecDepth 100000 in
set_option maxHeartbeats 2000000 in
theorem put_2 (t : Int) (g : ByteArray) (v i : Int) (w : World) (hg : g.size ≤ 16) (h : recErr ⟨2, t, g, v, i⟩ = 0) :
    Calls Try.prog 9 #[.agg #[.int .i64 2, .int .i64 t, .string g, .int .i64 v, .int .i64 i]] w (PutBack (recL ⟨2, t, g, v, i⟩) 0 w) := by
  have H := Lib.hid h
  have HL := Lib.hid (show recL ⟨2, t, g, v, i⟩ = (([2] ++ be8 t) ++ [(g.size : Int)] ++ strL g) ++ beL [v] from have e : (g.size : Int) % 256 = (g.size : Int) := (by omega); by simp [recL, tagK, namK, beL, e])
  obtain ⟨cs, hcs⟩ : ∃ cs : Array Value, cs = #[.int .i64 2, .int .i64 t, .string g, .int .i64 v, .int .i64 i] := ⟨_, rfl⟩
  have HCS := Lib.hid hcs
  clear h hcs
  go_enter Try.func9, Try.ntmps9
  go_wp2_with fail
  refine (check_is 2 t g v i 0 _ (by omega) H.out).mono ?_
  rintro e w1 ⟨rfl, hb1⟩
  have HB1 := Lib.hid (((Below.refl w.heap.size w).alloc (Nat.le_refl _) (.cells #[.int .i64 2, .int .i64 t, .string g, .int .i64 v, .int .i64 i] 23)).trans (hb1.mono (by simp)))
  have hbox : Blk w1 w.heap.size 23 cs := by rw [HCS.out]; exact (Blk.new w 23 _).below hb1 (by simp)
  have HBX := Lib.hid hbox
  have hz1 : w.heap.size ≤ w1.heap.size := HB1.out.size
  have b0 : w1.cell? ⟨w.heap.size, 0, none⟩ = some (.int .i64 2) := (HBX.out.cell 0).trans (by rw [HCS.out]; rfl)
  have b1 : w1.cell? ⟨w.heap.size, 1, none⟩ = some (.int .i64 t) := (HBX.out.cell 1).trans (by rw [HCS.out]; rfl)
  have b2 : w1.cell? ⟨w.heap.size, 2, none⟩ = some (.string g) := (HBX.out.cell 2).trans (by rw [HCS.out]; rfl)
  have b3 : w1.cell? ⟨w.heap.size, 3, none⟩ = some (.int .i64 v) := (HBX.out.cell 3).trans (by rw [HCS.out]; rfl)
  have b4 : w1.cell? ⟨w.heap.size, 4, none⟩ = some (.int .i64 i) := (HBX.out.cell 4).trans (by rw [HCS.out]; rfl)
  have hlt : w.heap.size < w1.heap.size := HBX.out.lt
  clear hb1 hbox
  go_upto_region 4 with fail
  have HO2 := Lib.hid ((own_new (E := 5) w1 [2] w.heap.size hz1 (by decide) #[.int .u8 2] rfl).alloc (.cells #[.int .i64 t] 3))
  have hl2 := Blk.new (w1.alloc (.cells #[.int .u8 2] 5)) 3 #[.int .i64 t]
  rw [World.size_alloc] at hl2
  have HL2 := Lib.hid hl2
  clear hl2
  have HK2 := Lib.hid (((Keeps.refl 5 w1).alloc (.cells #[.int .u8 2] 5)).alloc (.cells #[.int .i64 t] 3))
  have HB2 := Lib.hid (((HB1.out.alloc hz1 (.cells #[.int .u8 2] 5))).alloc (by simp; omega) (.cells #[.int .i64 t] 3))
  go_wp2_with fail
  refine (eight_to _ 1 1 w.heap.size 9 [2] [t] ([2] ++ be8 t) 1 _ 1 _ rfl rfl (by simp [beL]) HO2.out HL2.out (by simp; omega) (by omega) (by omega)).mono ?_
  rintro e w2 ⟨A2, c2, rfl, ho2, hb2, hk2⟩
  have HO3 := Lib.hid ho2
  have HB3 := Lib.hid (HB2.out.trans hb2)
  have HBX3 := Lib.hid ((HK2.out.trans hk2) _ _ _ (by decide) HBX.out)
  have hz2 : w.heap.size ≤ w2.heap.size := HB3.out.size
  clear ho2 hb2 hk2 b0 b1 b2 b3 b4 hlt HO2 HL2 HK2 HB2 HB1
  have b0 : w2.cell? ⟨w.heap.size, 0, none⟩ = some (.int .i64 2) := (HBX3.out.cell 0).trans (by rw [HCS.out]; rfl)
  have b1 : w2.cell? ⟨w.heap.size, 1, none⟩ = some (.int .i64 t) := (HBX3.out.cell 1).trans (by rw [HCS.out]; rfl)
  have b2 : w2.cell? ⟨w.heap.size, 2, none⟩ = some (.string g) := (HBX3.out.cell 2).trans (by rw [HCS.out]; rfl)
  have b3 : w2.cell? ⟨w.heap.size, 3, none⟩ = some (.int .i64 v) := (HBX3.out.cell 3).trans (by rw [HCS.out]; rfl)
  have b4 : w2.cell? ⟨w.heap.size, 4, none⟩ = some (.int .i64 i) := (HBX3.out.cell 4).trans (by rw [HCS.out]; rfl)
  have hlt : w.heap.size < w2.heap.size := HBX3.out.lt
  go_upto_region 8 with fail
  go_cut [5] (fun s5 wx => ∃ A3 c3, s5 = .slice A3 (9 + 1 + g.size) c3 ∧ OwnG Tr wx w.heap.size 5 1 (.slice A3 (9 + 1 + g.size) c3) (9 + 1 + g.size) ((([2] ++ be8 t) ++ [(g.size : Int)] ++ strL g).map (Value.int .u8)) ∧ Below w.heap.size w wx ∧ Keeps 5 w2 wx)
  case first =>
    have ew : IntKind.u8.wrap (g.size : Int) = (g.size : Int) := by simp [IntKind.wrap, IntKind.bits, IntKind.signed]; omega
    have k3 : 9 + 1 ≤ maxLen := by unfold maxLen; omega
    have k4 : (9 + 1) * 1 ≤ 140737488355328 := by omega
    have k5 : 9 + 1 + g.size ≤ maxLen := by unfold maxLen; omega
    have k6 : 9 + 1 + g.size ≤ 140737488355328 := by omega
    have HOA := Lib.hid ((HO3.out.alloc (.cells #[.int .u8 (g.size : Int)] 5)).below ((Below.refl _ _).drew))
    have HBA := Lib.hid ((HB3.out.alloc hz2 (.cells #[.int .u8 (g.size : Int)] 5)).drew)
    have HKA := Lib.hid (((Keeps.refl 5 w2).alloc (.cells #[.int .u8 (g.size : Int)] 5)).drew)
    have hza : w.heap.size ≤ (w2.alloc (.cells #[.int .u8 (g.size : Int)] 5)).drew.heap.size := HBA.out.size
    have HN1 := Lib.hid (ints_one .u8 (g.size : Int)).1
    obtain ⟨i0, hi0, hy0, hy1, hy2⟩ := info_parts Bytes.infoE
    have HI0 := Lib.hid hi0
    have HY0 := Lib.hid hy0
    have HY1 := Lib.hid hy1
    have HY2 := Lib.hid hy2
    clear hi0 hy0 hy1 hy2
    go_region_held3 (fun w' => w'.cell? ⟨w.heap.size, 2, none⟩ = some (.string g)) (first | go_keep | exact HCB.out | exact HCC.out)
      (first
        | (refine step_append_G rfl (.tmp 24) (.tmp 29) 24 rfl Tr w.heap.size 5 i0 _ 1 1 Try.underlying24 HI0.out HY0.out HY1.out HY2.out rfl (by omega) _ 9 _ rfl HOA.out ⟨w2.heap.size, 0, none⟩ 1 1 [.int .u8 (g.size : Int)] rfl rfl (World.news_of_block (cs := #[.int .u8 (g.size : Int)]) (t := 5) (fr := (0, 0)) (heap_alloc_new w2 _)) HN1.out k3 k4 hza (tr_all _) (tr_all _) (tr_all _) ?_; intro v3 w3 hown3 hgrow3; obtain ⟨A3, k3', rfl⟩ := hown3.slice; have HOB := Lib.hid (show OwnG Tr w3 w.heap.size 5 1 (.slice A3 (9 + 1) k3') (9 + 1) ((([2] ++ be8 t) ++ [(g.size : Int)]).map (Value.int .u8)) from by rw [List.map_append]; exact hown3); have HBB := Lib.hid (HBA.out.grown hgrow3 hza (fun q hq => (HOA.out.1.lt q hq).1)); have HKB := Lib.hid (HKA.out.trans (Keeps.grown HOA.out hgrow3)); have hzb := HBB.out.size; have HCB := Lib.hid (((HKB.out _ _ _ (by decide) HBX3.out).cell 2).trans (show cs[2]? = some (.string g) by rw [HCS.out]; rfl)); clear hown3 hgrow3)
        | (refine step_append_str rfl (.tmp 30) (.tmp 32) 24 9 rfl w.heap.size 5 i0 Try.underlying24 Try.underlying9 HI0.out HY0.out HY1.out HY2.out _ (9 + 1) _ rfl HOB.out g rfl k5 k6 hzb ?_; intro v4 w4 hown4 hgrow4; obtain ⟨A4, k4', rfl⟩ := hown4.slice; have HOC := Lib.hid hown4; have HBC := Lib.hid (HBB.out.grown hgrow4 hzb (fun q hq => (HOB.out.1.lt q hq).1)); have HKC := Lib.hid (HKB.out.trans (Keeps.grown HOB.out hgrow4)); have HCC := Lib.hid (((HKC.out _ _ _ (by decide) HBX3.out).cell 2).trans (show cs[2]? = some (.string g) by rw [HCS.out]; rfl)); clear hown4 hgrow4))
    go_wp2_with fail
    go_meet
    exact ⟨A4, k4', rfl, HOC.out, HBC.out, HKC.out⟩
  case rest =>
  obtain ⟨A3, c3, rfl, ho3, hb3, hk3⟩ := hcut
  obtain ⟨w3, rfl⟩ : ∃ wq : World, wq = wc := ⟨_, rfl⟩
  have HO4 := Lib.hid ho3
  have HB4 := Lib.hid hb3
  have HBX4 := Lib.hid (hk3 _ _ _ (by decide) HBX3.out)
  have hz3 : w.heap.size ≤ w3.heap.size := HB4.out.size
  clear ho3 hb3 hk3 b0 b1 b2 b3 b4 hlt HO3 HB3 HBX3
  have b0 : w3.cell? ⟨w.heap.size, 0, none⟩ = some (.int .i64 2) := (HBX4.out.cell 0).trans (by rw [HCS.out]; rfl)
  have b1 : w3.cell? ⟨w.heap.size, 1, none⟩ = some (.int .i64 t) := (HBX4.out.cell 1).trans (by rw [HCS.out]; rfl)
  have b2 : w3.cell? ⟨w.heap.size, 2, none⟩ = some (.string g) := (HBX4.out.cell 2).trans (by rw [HCS.out]; rfl)
  have b3 : w3.cell? ⟨w.heap.size, 3, none⟩ = some (.int .i64 v) := (HBX4.out.cell 3).trans (by rw [HCS.out]; rfl)
  have b4 : w3.cell? ⟨w.heap.size, 4, none⟩ = some (.int .i64 i) := (HBX4.out.cell 4).trans (by rw [HCS.out]; rfl)
  have hlt : w.heap.size < w3.heap.size := HBX4.out.lt
  have HO5 := Lib.hid (HO4.out.alloc (.cells #[.int .i64 v] 3))
  have HL5 := Lib.hid (Blk.new w3 3 #[.int .i64 v])
  have HB5 := Lib.hid (HB4.out.alloc (by omega) (.cells #[.int .i64 v] 3))
  go_wp2_with fail
  refine (eight_to _ (9 + 1 + g.size) _ w.heap.size ((9 + 1 + g.size) + 8) (([2] ++ be8 t) ++ [(g.size : Int)] ++ strL g) [v] ((([2] ++ be8 t) ++ [(g.size : Int)] ++ strL g) ++ beL [v]) 1 _ 1 _ rfl rfl rfl HO5.out HL5.out (by simp; omega) (by omega) (by omega)).mono ?_
  rintro e w5 ⟨A5, c5, rfl, ho5, hb5, _⟩
  have HO6 := Lib.hid ho5
  have HB6 := Lib.hid (HB5.out.trans hb5)
  have HLN := Lib.hid (show (recL ⟨2, t, g, v, i⟩).length = (9 + 1 + g.size) + 8 by rw [HL.out]; simp [be8_len, beL_len, strL_len]; omega)
  clear ho5 hb5 b0 b1 b2 b3 b4
  go_wp2_with fail
  refine bodyPost_ret (v := .tuple #[.slice A5 ((9 + 1 + g.size) + 8) c5, .int .i64 0]) ?_ rfl ⟨A5, c5, by rw [HLN.out], by rw [HLN.out, HL.out]; exact HO6.out, HB6.out⟩
  simp [results, Try.results9, go_sem]
set_option maxRecDepth 100000 in
set_option maxHeartbeats 2000000 in
theorem put_3 (t : Int) (g : ByteArray) (v i : Int) (w : World) (hg : g.size ≤ 9223372036854775807) (h : recErr ⟨3, t, g, v, i⟩ = 0) :
    Calls Try.prog 9 #[.agg #[.int .i64 3, .int .i64 t, .string g, .int .i64 v, .int .i64 i]] w (PutBack (recL ⟨3, t, g, v, i⟩) 0 w) := by
  have H := Lib.hid h
  have HL := Lib.hid (show recL ⟨3, t, g, v, i⟩ = ([3] ++ be8 t) ++ beL [v] from by simp [recL, tagK, namK, beL])
  obtain ⟨cs, hcs⟩ : ∃ cs : Array Value, cs = #[.int .i64 3, .int .i64 t, .string g, .int .i64 v, .int .i64 i] := ⟨_, rfl⟩
  have HCS := Lib.hid hcs
  clear h hcs
  go_enter Try.func9, Try.ntmps9
  go_wp2_with fail
  refine (check_is 3 t g v i 0 _ (by omega) H.out).mono ?_
  rintro e w1 ⟨rfl, hb1⟩
  have HB1 := Lib.hid (((Below.refl w.heap.size w).alloc (Nat.le_refl _) (.cells #[.int .i64 3, .int .i64 t, .string g, .int .i64 v, .int .i64 i] 23)).trans (hb1.mono (by simp)))
  have hbox : Blk w1 w.heap.size 23 cs := by rw [HCS.out]; exact (Blk.new w 23 _).below hb1 (by simp)
  have HBX := Lib.hid hbox
  have hz1 : w.heap.size ≤ w1.heap.size := HB1.out.size
  have b0 : w1.cell? ⟨w.heap.size, 0, none⟩ = some (.int .i64 3) := (HBX.out.cell 0).trans (by rw [HCS.out]; rfl)
  have b1 : w1.cell? ⟨w.heap.size, 1, none⟩ = some (.int .i64 t) := (HBX.out.cell 1).trans (by rw [HCS.out]; rfl)
  have b2 : w1.cell? ⟨w.heap.size, 2, none⟩ = some (.string g) := (HBX.out.cell 2).trans (by rw [HCS.out]; rfl)
  have b3 : w1.cell? ⟨w.heap.size, 3, none⟩ = some (.int .i64 v) := (HBX.out.cell 3).trans (by rw [HCS.out]; rfl)
  have b4 : w1.cell? ⟨w.heap.size, 4, none⟩ = some (.int .i64 i) := (HBX.out.cell 4).trans (by rw [HCS.out]; rfl)
  have hlt : w.heap.size < w1.heap.size := HBX.out.lt
  clear hb1 hbox
  go_upto_region 4 with fail
  have HO2 := Lib.hid ((own_new (E := 5) w1 [3] w.heap.size hz1 (by decide) #[.int .u8 3] rfl).alloc (.cells #[.int .i64 t] 3))
  have hl2 := Blk.new (w1.alloc (.cells #[.int .u8 3] 5)) 3 #[.int .i64 t]
  rw [World.size_alloc] at hl2
  have HL2 := Lib.hid hl2
  clear hl2
  have HK2 := Lib.hid (((Keeps.refl 5 w1).alloc (.cells #[.int .u8 3] 5)).alloc (.cells #[.int .i64 t] 3))
  have HB2 := Lib.hid (((HB1.out.alloc hz1 (.cells #[.int .u8 3] 5))).alloc (by simp; omega) (.cells #[.int .i64 t] 3))
  go_wp2_with fail
  refine (eight_to _ 1 1 w.heap.size 9 [3] [t] ([3] ++ be8 t) 1 _ 1 _ rfl rfl (by simp [beL]) HO2.out HL2.out (by simp; omega) (by omega) (by omega)).mono ?_
  rintro e w2 ⟨A2, c2, rfl, ho2, hb2, hk2⟩
  have HO3 := Lib.hid ho2
  have HB3 := Lib.hid (HB2.out.trans hb2)
  have HBX3 := Lib.hid ((HK2.out.trans hk2) _ _ _ (by decide) HBX.out)
  have hz2 : w.heap.size ≤ w2.heap.size := HB3.out.size
  clear ho2 hb2 hk2 b0 b1 b2 b3 b4 hlt HO2 HL2 HK2 HB2 HB1
  have b0 : w2.cell? ⟨w.heap.size, 0, none⟩ = some (.int .i64 3) := (HBX3.out.cell 0).trans (by rw [HCS.out]; rfl)
  have b1 : w2.cell? ⟨w.heap.size, 1, none⟩ = some (.int .i64 t) := (HBX3.out.cell 1).trans (by rw [HCS.out]; rfl)
  have b2 : w2.cell? ⟨w.heap.size, 2, none⟩ = some (.string g) := (HBX3.out.cell 2).trans (by rw [HCS.out]; rfl)
  have b3 : w2.cell? ⟨w.heap.size, 3, none⟩ = some (.int .i64 v) := (HBX3.out.cell 3).trans (by rw [HCS.out]; rfl)
  have b4 : w2.cell? ⟨w.heap.size, 4, none⟩ = some (.int .i64 i) := (HBX3.out.cell 4).trans (by rw [HCS.out]; rfl)
  have hlt : w.heap.size < w2.heap.size := HBX3.out.lt
  have HO5 := Lib.hid (HO3.out.alloc (.cells #[.int .i64 v] 3))
  have HL5 := Lib.hid (Blk.new w2 3 #[.int .i64 v])
  have HB5 := Lib.hid (HB3.out.alloc (by omega) (.cells #[.int .i64 v] 3))
  go_wp2_with fail
  refine (eight_to _ 9 _ w.heap.size (9 + 8) ([3] ++ be8 t) [v] (([3] ++ be8 t) ++ beL [v]) 1 _ 1 _ rfl rfl rfl HO5.out HL5.out (by simp; omega) (by omega) (by omega)).mono ?_
  rintro e w5 ⟨A5, c5, rfl, ho5, hb5, _⟩
  have HO6 := Lib.hid ho5
  have HB6 := Lib.hid (HB5.out.trans hb5)
  have HLN := Lib.hid (show (recL ⟨3, t, g, v, i⟩).length = 9 + 8 by rw [HL.out]; simp [be8_len, beL_len])
  clear ho5 hb5 b0 b1 b2 b3 b4
  go_wp2_with fail
  refine bodyPost_ret (v := .tuple #[.slice A5 (9 + 8) c5, .int .i64 0]) ?_ rfl ⟨A5, c5, by rw [HLN.out], by rw [HLN.out, HL.out]; exact HO6.out, HB6.out⟩
  simp [results, Try.results9, go_sem]
set_option maxRecDepth 100000 in
set_option maxHeartbeats 2000000 in
theorem put_4 (t : Int) (g : ByteArray) (v i : Int) (w : World) (hg : g.size ≤ 9223372036854775807) (h : recErr ⟨4, t, g, v, i⟩ = 0) :
    Calls Try.prog 9 #[.agg #[.int .i64 4, .int .i64 t, .string g, .int .i64 v, .int .i64 i]] w (PutBack (recL ⟨4, t, g, v, i⟩) 0 w) := by
  have H := Lib.hid h
  have HL := Lib.hid (show recL ⟨4, t, g, v, i⟩ = ([4] ++ be8 t) ++ beL [v] from by simp [recL, tagK, namK, beL])
  obtain ⟨cs, hcs⟩ : ∃ cs : Array Value, cs = #[.int .i64 4, .int .i64 t, .string g, .int .i64 v, .int .i64 i] := ⟨_, rfl⟩
  have HCS := Lib.hid hcs
  clear h hcs
  go_enter Try.func9, Try.ntmps9
  go_wp2_with fail
  refine (check_is 4 t g v i 0 _ (by omega) H.out).mono ?_
  rintro e w1 ⟨rfl, hb1⟩
  have HB1 := Lib.hid (((Below.refl w.heap.size w).alloc (Nat.le_refl _) (.cells #[.int .i64 4, .int .i64 t, .string g, .int .i64 v, .int .i64 i] 23)).trans (hb1.mono (by simp)))
  have hbox : Blk w1 w.heap.size 23 cs := by rw [HCS.out]; exact (Blk.new w 23 _).below hb1 (by simp)
  have HBX := Lib.hid hbox
  have hz1 : w.heap.size ≤ w1.heap.size := HB1.out.size
  have b0 : w1.cell? ⟨w.heap.size, 0, none⟩ = some (.int .i64 4) := (HBX.out.cell 0).trans (by rw [HCS.out]; rfl)
  have b1 : w1.cell? ⟨w.heap.size, 1, none⟩ = some (.int .i64 t) := (HBX.out.cell 1).trans (by rw [HCS.out]; rfl)
  have b2 : w1.cell? ⟨w.heap.size, 2, none⟩ = some (.string g) := (HBX.out.cell 2).trans (by rw [HCS.out]; rfl)
  have b3 : w1.cell? ⟨w.heap.size, 3, none⟩ = some (.int .i64 v) := (HBX.out.cell 3).trans (by rw [HCS.out]; rfl)
  have b4 : w1.cell? ⟨w.heap.size, 4, none⟩ = some (.int .i64 i) := (HBX.out.cell 4).trans (by rw [HCS.out]; rfl)
  have hlt : w.heap.size < w1.heap.size := HBX.out.lt
  clear hb1 hbox
  go_upto_region 4 with fail
  have HO2 := Lib.hid ((own_new (E := 5) w1 [4] w.heap.size hz1 (by decide) #[.int .u8 4] rfl).alloc (.cells #[.int .i64 t] 3))
  have hl2 := Blk.new (w1.alloc (.cells #[.int .u8 4] 5)) 3 #[.int .i64 t]
  rw [World.size_alloc] at hl2
  have HL2 := Lib.hid hl2
  clear hl2
  have HK2 := Lib.hid (((Keeps.refl 5 w1).alloc (.cells #[.int .u8 4] 5)).alloc (.cells #[.int .i64 t] 3))
  have HB2 := Lib.hid (((HB1.out.alloc hz1 (.cells #[.int .u8 4] 5))).alloc (by simp; omega) (.cells #[.int .i64 t] 3))
  go_wp2_with fail
  refine (eight_to _ 1 1 w.heap.size 9 [4] [t] ([4] ++ be8 t) 1 _ 1 _ rfl rfl (by simp [beL]) HO2.out HL2.out (by simp; omega) (by omega) (by omega)).mono ?_
  rintro e w2 ⟨A2, c2, rfl, ho2, hb2, hk2⟩
  have HO3 := Lib.hid ho2
  have HB3 := Lib.hid (HB2.out.trans hb2)
  have HBX3 := Lib.hid ((HK2.out.trans hk2) _ _ _ (by decide) HBX.out)
  have hz2 : w.heap.size ≤ w2.heap.size := HB3.out.size
  clear ho2 hb2 hk2 b0 b1 b2 b3 b4 hlt HO2 HL2 HK2 HB2 HB1
  have b0 : w2.cell? ⟨w.heap.size, 0, none⟩ = some (.int .i64 4) := (HBX3.out.cell 0).trans (by rw [HCS.out]; rfl)
  have b1 : w2.cell? ⟨w.heap.size, 1, none⟩ = some (.int .i64 t) := (HBX3.out.cell 1).trans (by rw [HCS.out]; rfl)
  have b2 : w2.cell? ⟨w.heap.size, 2, none⟩ = some (.string g) := (HBX3.out.cell 2).trans (by rw [HCS.out]; rfl)
  have b3 : w2.cell? ⟨w.heap.size, 3, none⟩ = some (.int .i64 v) := (HBX3.out.cell 3).trans (by rw [HCS.out]; rfl)
  have b4 : w2.cell? ⟨w.heap.size, 4, none⟩ = some (.int .i64 i) := (HBX3.out.cell 4).trans (by rw [HCS.out]; rfl)
  have hlt : w.heap.size < w2.heap.size := HBX3.out.lt
  have HO5 := Lib.hid (HO3.out.alloc (.cells #[.int .i64 v] 3))
  have HL5 := Lib.hid (Blk.new w2 3 #[.int .i64 v])
  have HB5 := Lib.hid (HB3.out.alloc (by omega) (.cells #[.int .i64 v] 3))
  go_wp2_with fail
  refine (eight_to _ 9 _ w.heap.size (9 + 8) ([4] ++ be8 t) [v] (([4] ++ be8 t) ++ beL [v]) 1 _ 1 _ rfl rfl rfl HO5.out HL5.out (by simp; omega) (by omega) (by omega)).mono ?_
  rintro e w5 ⟨A5, c5, rfl, ho5, hb5, _⟩
  have HO6 := Lib.hid ho5
  have HB6 := Lib.hid (HB5.out.trans hb5)
  have HLN := Lib.hid (show (recL ⟨4, t, g, v, i⟩).length = 9 + 8 by rw [HL.out]; simp [be8_len, beL_len])
  clear ho5 hb5 b0 b1 b2 b3 b4
  go_wp2_with fail
  refine bodyPost_ret (v := .tuple #[.slice A5 (9 + 8) c5, .int .i64 0]) ?_ rfl ⟨A5, c5, by rw [HLN.out], by rw [HLN.out, HL.out]; exact HO6.out, HB6.out⟩
  simp [results, Try.results9, go_sem]
set_option maxRecDepth 100000 in
set_option maxHeartbeats 2000000 in
theorem put_5 (t : Int) (g : ByteArray) (v i : Int) (w : World) (hg : g.size ≤ 9223372036854775807) (h : recErr ⟨5, t, g, v, i⟩ = 0) :
    Calls Try.prog 9 #[.agg #[.int .i64 5, .int .i64 t, .string g, .int .i64 v, .int .i64 i]] w (PutBack (recL ⟨5, t, g, v, i⟩) 0 w) := by
  have H := Lib.hid h
  have HL := Lib.hid (show recL ⟨5, t, g, v, i⟩ = ([5] ++ be8 t) ++ beL [i] from by simp [recL, tagK, namK, beL])
  obtain ⟨cs, hcs⟩ : ∃ cs : Array Value, cs = #[.int .i64 5, .int .i64 t, .string g, .int .i64 v, .int .i64 i] := ⟨_, rfl⟩
  have HCS := Lib.hid hcs
  clear h hcs
  go_enter Try.func9, Try.ntmps9
  go_wp2_with fail
  refine (check_is 5 t g v i 0 _ (by omega) H.out).mono ?_
  rintro e w1 ⟨rfl, hb1⟩
  have HB1 := Lib.hid (((Below.refl w.heap.size w).alloc (Nat.le_refl _) (.cells #[.int .i64 5, .int .i64 t, .string g, .int .i64 v, .int .i64 i] 23)).trans (hb1.mono (by simp)))
  have hbox : Blk w1 w.heap.size 23 cs := by rw [HCS.out]; exact (Blk.new w 23 _).below hb1 (by simp)
  have HBX := Lib.hid hbox
  have hz1 : w.heap.size ≤ w1.heap.size := HB1.out.size
  have b0 : w1.cell? ⟨w.heap.size, 0, none⟩ = some (.int .i64 5) := (HBX.out.cell 0).trans (by rw [HCS.out]; rfl)
  have b1 : w1.cell? ⟨w.heap.size, 1, none⟩ = some (.int .i64 t) := (HBX.out.cell 1).trans (by rw [HCS.out]; rfl)
  have b2 : w1.cell? ⟨w.heap.size, 2, none⟩ = some (.string g) := (HBX.out.cell 2).trans (by rw [HCS.out]; rfl)
  have b3 : w1.cell? ⟨w.heap.size, 3, none⟩ = some (.int .i64 v) := (HBX.out.cell 3).trans (by rw [HCS.out]; rfl)
  have b4 : w1.cell? ⟨w.heap.size, 4, none⟩ = some (.int .i64 i) := (HBX.out.cell 4).trans (by rw [HCS.out]; rfl)
  have hlt : w.heap.size < w1.heap.size := HBX.out.lt
  clear hb1 hbox
  go_upto_region 4 with fail
  have HO2 := Lib.hid ((own_new (E := 5) w1 [5] w.heap.size hz1 (by decide) #[.int .u8 5] rfl).alloc (.cells #[.int .i64 t] 3))
  have hl2 := Blk.new (w1.alloc (.cells #[.int .u8 5] 5)) 3 #[.int .i64 t]
  rw [World.size_alloc] at hl2
  have HL2 := Lib.hid hl2
  clear hl2
  have HK2 := Lib.hid (((Keeps.refl 5 w1).alloc (.cells #[.int .u8 5] 5)).alloc (.cells #[.int .i64 t] 3))
  have HB2 := Lib.hid (((HB1.out.alloc hz1 (.cells #[.int .u8 5] 5))).alloc (by simp; omega) (.cells #[.int .i64 t] 3))
  go_wp2_with fail
  refine (eight_to _ 1 1 w.heap.size 9 [5] [t] ([5] ++ be8 t) 1 _ 1 _ rfl rfl (by simp [beL]) HO2.out HL2.out (by simp; omega) (by omega) (by omega)).mono ?_
  rintro e w2 ⟨A2, c2, rfl, ho2, hb2, hk2⟩
  have HO3 := Lib.hid ho2
  have HB3 := Lib.hid (HB2.out.trans hb2)
  have HBX3 := Lib.hid ((HK2.out.trans hk2) _ _ _ (by decide) HBX.out)
  have hz2 : w.heap.size ≤ w2.heap.size := HB3.out.size
  clear ho2 hb2 hk2 b0 b1 b2 b3 b4 hlt HO2 HL2 HK2 HB2 HB1
  have b0 : w2.cell? ⟨w.heap.size, 0, none⟩ = some (.int .i64 5) := (HBX3.out.cell 0).trans (by rw [HCS.out]; rfl)
  have b1 : w2.cell? ⟨w.heap.size, 1, none⟩ = some (.int .i64 t) := (HBX3.out.cell 1).trans (by rw [HCS.out]; rfl)
  have b2 : w2.cell? ⟨w.heap.size, 2, none⟩ = some (.string g) := (HBX3.out.cell 2).trans (by rw [HCS.out]; rfl)
  have b3 : w2.cell? ⟨w.heap.size, 3, none⟩ = some (.int .i64 v) := (HBX3.out.cell 3).trans (by rw [HCS.out]; rfl)
  have b4 : w2.cell? ⟨w.heap.size, 4, none⟩ = some (.int .i64 i) := (HBX3.out.cell 4).trans (by rw [HCS.out]; rfl)
  have hlt : w.heap.size < w2.heap.size := HBX3.out.lt
  have HO5 := Lib.hid (HO3.out.alloc (.cells #[.int .i64 i] 3))
  have HL5 := Lib.hid (Blk.new w2 3 #[.int .i64 i])
  have HB5 := Lib.hid (HB3.out.alloc (by omega) (.cells #[.int .i64 i] 3))
  go_wp2_with fail
  refine (eight_to _ 9 _ w.heap.size (9 + 8) ([5] ++ be8 t) [i] (([5] ++ be8 t) ++ beL [i]) 1 _ 1 _ rfl rfl rfl HO5.out HL5.out (by simp; omega) (by omega) (by omega)).mono ?_
  rintro e w5 ⟨A5, c5, rfl, ho5, hb5, _⟩
  have HO6 := Lib.hid ho5
  have HB6 := Lib.hid (HB5.out.trans hb5)
  have HLN := Lib.hid (show (recL ⟨5, t, g, v, i⟩).length = 9 + 8 by rw [HL.out]; simp [be8_len, beL_len])
  clear ho5 hb5 b0 b1 b2 b3 b4
  go_wp2_with fail
  refine bodyPost_ret (v := .tuple #[.slice A5 (9 + 8) c5, .int .i64 0]) ?_ rfl ⟨A5, c5, by rw [HLN.out], by rw [HLN.out, HL.out]; exact HO6.out, HB6.out⟩
  simp [results, Try.results9, go_sem]
set_option maxRecDepth 100000 in
set_option maxHeartbeats 2000000 in
theorem put_6 (t : Int) (g : ByteArray) (v i : Int) (w : World) (hg : g.size ≤ 9223372036854775807) (h : recErr ⟨6, t, g, v, i⟩ = 0) :
    Calls Try.prog 9 #[.agg #[.int .i64 6, .int .i64 t, .string g, .int .i64 v, .int .i64 i]] w (PutBack (recL ⟨6, t, g, v, i⟩) 0 w) := by
  have H := Lib.hid h
  have HL := Lib.hid (show recL ⟨6, t, g, v, i⟩ = ([6] ++ be8 t) ++ beL [i, v] from by simp [recL, tagK, namK, beL])
  obtain ⟨cs, hcs⟩ : ∃ cs : Array Value, cs = #[.int .i64 6, .int .i64 t, .string g, .int .i64 v, .int .i64 i] := ⟨_, rfl⟩
  have HCS := Lib.hid hcs
  clear h hcs
  go_enter Try.func9, Try.ntmps9
  go_wp2_with fail
  refine (check_is 6 t g v i 0 _ (by omega) H.out).mono ?_
  rintro e w1 ⟨rfl, hb1⟩
  have HB1 := Lib.hid (((Below.refl w.heap.size w).alloc (Nat.le_refl _) (.cells #[.int .i64 6, .int .i64 t, .string g, .int .i64 v, .int .i64 i] 23)).trans (hb1.mono (by simp)))
  have hbox : Blk w1 w.heap.size 23 cs := by rw [HCS.out]; exact (Blk.new w 23 _).below hb1 (by simp)
  have HBX := Lib.hid hbox
  have hz1 : w.heap.size ≤ w1.heap.size := HB1.out.size
  have b0 : w1.cell? ⟨w.heap.size, 0, none⟩ = some (.int .i64 6) := (HBX.out.cell 0).trans (by rw [HCS.out]; rfl)
  have b1 : w1.cell? ⟨w.heap.size, 1, none⟩ = some (.int .i64 t) := (HBX.out.cell 1).trans (by rw [HCS.out]; rfl)
  have b2 : w1.cell? ⟨w.heap.size, 2, none⟩ = some (.string g) := (HBX.out.cell 2).trans (by rw [HCS.out]; rfl)
  have b3 : w1.cell? ⟨w.heap.size, 3, none⟩ = some (.int .i64 v) := (HBX.out.cell 3).trans (by rw [HCS.out]; rfl)
  have b4 : w1.cell? ⟨w.heap.size, 4, none⟩ = some (.int .i64 i) := (HBX.out.cell 4).trans (by rw [HCS.out]; rfl)
  have hlt : w.heap.size < w1.heap.size := HBX.out.lt
  clear hb1 hbox
  go_upto_region 4 with fail
  have HO2 := Lib.hid ((own_new (E := 5) w1 [6] w.heap.size hz1 (by decide) #[.int .u8 6] rfl).alloc (.cells #[.int .i64 t] 3))
  have hl2 := Blk.new (w1.alloc (.cells #[.int .u8 6] 5)) 3 #[.int .i64 t]
  rw [World.size_alloc] at hl2
  have HL2 := Lib.hid hl2
  clear hl2
  have HK2 := Lib.hid (((Keeps.refl 5 w1).alloc (.cells #[.int .u8 6] 5)).alloc (.cells #[.int .i64 t] 3))
  have HB2 := Lib.hid (((HB1.out.alloc hz1 (.cells #[.int .u8 6] 5))).alloc (by simp; omega) (.cells #[.int .i64 t] 3))
  go_wp2_with fail
  refine (eight_to _ 1 1 w.heap.size 9 [6] [t] ([6] ++ be8 t) 1 _ 1 _ rfl rfl (by simp [beL]) HO2.out HL2.out (by simp; omega) (by omega) (by omega)).mono ?_
  rintro e w2 ⟨A2, c2, rfl, ho2, hb2, hk2⟩
  have HO3 := Lib.hid ho2
  have HB3 := Lib.hid (HB2.out.trans hb2)
  have HBX3 := Lib.hid ((HK2.out.trans hk2) _ _ _ (by decide) HBX.out)
  have hz2 : w.heap.size ≤ w2.heap.size := HB3.out.size
  clear ho2 hb2 hk2 b0 b1 b2 b3 b4 hlt HO2 HL2 HK2 HB2 HB1
  have b0 : w2.cell? ⟨w.heap.size, 0, none⟩ = some (.int .i64 6) := (HBX3.out.cell 0).trans (by rw [HCS.out]; rfl)
  have b1 : w2.cell? ⟨w.heap.size, 1, none⟩ = some (.int .i64 t) := (HBX3.out.cell 1).trans (by rw [HCS.out]; rfl)
  have b2 : w2.cell? ⟨w.heap.size, 2, none⟩ = some (.string g) := (HBX3.out.cell 2).trans (by rw [HCS.out]; rfl)
  have b3 : w2.cell? ⟨w.heap.size, 3, none⟩ = some (.int .i64 v) := (HBX3.out.cell 3).trans (by rw [HCS.out]; rfl)
  have b4 : w2.cell? ⟨w.heap.size, 4, none⟩ = some (.int .i64 i) := (HBX3.out.cell 4).trans (by rw [HCS.out]; rfl)
  have hlt : w.heap.size < w2.heap.size := HBX3.out.lt
  have HO5 := Lib.hid (HO3.out.alloc (.cells #[.int .i64 i, .int .i64 v] 3))
  have HL5 := Lib.hid (Blk.new w2 3 #[.int .i64 i, .int .i64 v])
  have HB5 := Lib.hid (HB3.out.alloc (by omega) (.cells #[.int .i64 i, .int .i64 v] 3))
  go_wp2_with fail
  refine (eight_to _ 9 _ w.heap.size (9 + 16) ([6] ++ be8 t) [i, v] (([6] ++ be8 t) ++ beL [i, v]) 2 _ 2 _ rfl rfl rfl HO5.out HL5.out (by simp; omega) (by omega) (by omega)).mono ?_
  rintro e w5 ⟨A5, c5, rfl, ho5, hb5, _⟩
  have HO6 := Lib.hid ho5
  have HB6 := Lib.hid (HB5.out.trans hb5)
  have HLN := Lib.hid (show (recL ⟨6, t, g, v, i⟩).length = 9 + 16 by rw [HL.out]; simp [be8_len, beL_len])
  clear ho5 hb5 b0 b1 b2 b3 b4
  go_wp2_with fail
  refine bodyPost_ret (v := .tuple #[.slice A5 (9 + 16) c5, .int .i64 0]) ?_ rfl ⟨A5, c5, by rw [HLN.out], by rw [HLN.out, HL.out]; exact HO6.out, HB6.out⟩
  simp [results, Try.results9, go_sem]
theorem ok_tag {r : Rec} (h : recErr r = 0) (hk : tagK r.k) : r.g.size ≤ 16 := by
  obtain ⟨_, _, _, h4, _⟩ := err_parts h
  cases hn : nameB r.g with
  | false => exact absurd ⟨hk, hn⟩ h4
  | true => exact (of_decide_eq_true hn).2.1
theorem ok_kind {r : Rec} (h : recErr r = 0) : r.k = 1 ∨ r.k = 2 ∨ r.k = 3 ∨ r.k = 4 ∨ r.k = 5 ∨ r.k = 6 := by
  obtain ⟨h1, _⟩ := err_parts h
  unfold Within at h1
  omega
theorem put_any (r : Rec) (w : World) (Q : List Int) (n : Int) (hg : r.g.size ≤ 9223372036854775807) (h : putR r = (Q, n)) :
    Calls Try.prog 9 #[.agg r.cells] w (PutBack Q n w) := by
  unfold putR at h
  by_cases h0 : recErr r = 0
  · rw [if_pos h0] at h
    cases h
    have hk := ok_kind h0
    have ht := ok_tag h0
    obtain ⟨k, t, g, v, i⟩ := r
    dsimp only at hk ht hg
    rcases hk with rfl | rfl | rfl | rfl | rfl | rfl
    · exact put_1 t g v i w (ht (.inl rfl)) h0
    · exact put_2 t g v i w (ht (.inr rfl)) h0
    · exact put_3 t g v i w hg h0
    · exact put_4 t g v i w hg h0
    · exact put_5 t g v i w hg h0
    · exact put_6 t g v i w hg h0
  · rw [if_neg h0] at h
    cases h
    obtain ⟨k, t, g, v, i⟩ := r
    exact put_err k t g v i _ w hg rfl h0
end Go.Proofs.Ytognidoohinipaa
