/-
  What is proved here: the law TagsLess returns true. Conditions: none beyond the form's.
-/
import Derived.Test.YthnhholpkomdhaaTagList
import Derived.Test.YthnhholpkomdhaaTagSub
import Derived.OwnWalk
import Derived.Deep.AppendLies
namespace Go.Proofs.Ythnhholpkomdhaa
namespace TagsLess
open Go.ChangeShapes Go.WideShapes Go.ChangeAt Go.RowKit Go.Deep
attribute [local go_sem ↓ high] loadTag_eq storeTag_eq mkTags_eq
attribute [local go_sem] run_storeTag_new run_loadTag_new

set_option maxRecDepth 100000 in
set_option maxHeartbeats 2000000 in
theorem walk (A : Option Addr) (ca : Nat) (L : List Tag) (m : Int) (w : World) (hA : TagsAt w A L) (hN : NamesFit L) (hca : L.length ≤ ca) (hlen : ca * 128 ≤ 140737488351232) :
    Calls Try.prog 4 #[.slice A L.length ca, .int .u64 m] w fun e w' => e = .returned (.bool true) ∧ Below w.heap.size w w' := by
  have HA := Lib.hid hA
  have HN := Lib.hid hN
  clear hA hN
  by_cases h64 : 64 < L.length
  · have g64 : (64 : Int) < (L.length : Int) := by omega
    go_enter Try.func4, Try.ntmps4
    go_wp2_with fail
    refine (known_any _).mono ?_
    rintro e w1 ⟨rfl, hb1⟩
    go_wp2_with fail
    go_ret
    exact ⟨rfl, hb1⟩
  have g64 : ¬ (64 : Int) < (L.length : Int) := by omega
  have H64 := Lib.hid h64
  clear h64
  go_enter Try.func4, Try.ntmps4
  go_wp2_with fail
  refine (all_any A ca L _ HA.out HN.out (by omega)).mono ?_
  rintro e w1 ⟨rfl, hb1⟩
  obtain ⟨x, hx⟩ : ∃ x, x = (allOf L).1 := ⟨_, rfl⟩
  rw [← hx]
  obtain ⟨y, hy⟩ : ∃ y, y = (allOf L).2 := ⟨_, rfl⟩
  rw [← hy]
  have hxy : allOf L = (x, y) := by rw [hx, hy]
  clear hx hy
  by_cases hz : x = 0
  rotate_left
  · have n1 : (x != 0) = true := by rw [bne_iff_ne]; exact hz
    have n2 : (x == x) = true := beq_self_eq_true x
    obtain ⟨hk, _, _⟩ := all_first hxy hz H64.out
    have HT1 := Lib.hid (all_ahead hxy hz H64.out)
    have HT2 := Lib.hid (all_upto hxy hz H64.out)
    clear hxy hz
    have hk1 : (y : Int) ≤ (ca : Int) := by omega
    have hk2 : (y : Int) + 1 ≤ (ca : Int) := by omega
    have hk3 : (0 : Int) ≤ (y : Int) := by omega
    have hk4 : (0 : Int) ≤ (y : Int) + 1 := by omega
    have hk5 : ((y : Int) + 1).toNat = y + 1 := by omega
    go_wp2_with fail
    (with_reducible refine (all_at A y ca (L.take y) 0 0 _ (by rw [List.length_take]; omega) (take_at (HA.out.below hb1 (Nat.le_refl _)) y) (take_fit HN.out y) (by omega) HT1.out).mono ?_)
    rintro e w2 ⟨rfl, hb2⟩
    have hbw2 : Below w.heap.size w w2 := hb1.trans (hb2.mono hb1.size)
    clear hb1 hb2
    go_wp2_with fail
    (with_reducible refine (all_at A (y + 1) ca (L.take (y + 1)) x y _ (by rw [List.length_take]; omega) (take_at (HA.out.below hbw2 (Nat.le_refl _)) (y + 1)) (take_fit HN.out (y + 1)) (by omega) HT2.out).mono ?_)
    rintro e w3 ⟨rfl, hb3⟩
    have hbw3 : Below w.heap.size w w3 := hbw2.trans (hb3.mono hbw2.size)
    clear hbw2 hb3
    go_wp2_with fail
    refine (known_any _).mono ?_
    rintro e w4 ⟨rfl, hb4⟩
    go_wp2_with fail
    go_ret
    exact ⟨rfl, hbw3.trans (hb4.mono hbw3.size)⟩
  subst hz
  obtain ⟨_, _, hT⟩ := all_zero (show (allOf L).1 = 0 by rw [hxy])
  have HT := Lib.hid hT
  clear hxy hT
  obtain ⟨i0, hi0, hz0, hz1, hz2⟩ := info_parts infoT
  go_wp2_with fail
  go_loopg [11, 12] L.length (fun gg s i wr => ∃ k : Nat, ∃ O, k ≤ L.length ∧ gg = L.length - k ∧ i = .int .i64 k ∧ wr.ownsRow w.heap.size 29 19 s O.length (tcells O) ∧ Some_ L O k ∧ Below w.heap.size w wr)
  case atStart => exact ⟨0, [], Nat.zero_le _, rfl, rfl, ⟨by simp [tcells, rowOf], .inl ⟨rfl, rfl⟩⟩, Some_.zero L, hb1⟩
  case round =>
    clear hb1
    obtain ⟨k, O, hk, rfl, rfl, hown, hsome, hbw⟩ := hrel
    have HO := Lib.hid hown
    have HSO := Lib.hid hsome
    clear hown hsome
    by_cases hlt : k < L.length
    · have hki : (k : Int) < (L.length : Int) := by omega
      have hk0 : (0 : Int) ≤ (k : Int) := by omega
      obtain ⟨b, off, rfl, hb, hr⟩ := HA.out.at_ hbw hlt
      obtain ⟨x, hx⟩ : ∃ x, x = L.getD k t0 := ⟨_, rfl⟩
      rw [← hx] at hr
      have HX := Lib.hid hx
      clear hx
      have hl := range_load hr
      have hm : (mkTags 1 #[(0, .agg x.cells)]).run Try.prog wr = .ok (.slice (some ⟨wr.heap.size, 0, none⟩) 1 1) (wr.alloc (.cells (rowOf [x]) 29)) := run_mkTags wr [x] 1 _ rfl rfl (by decide) (by decide)
      have hone : ∀ u ∈ x.cells.toList, u.oneCell' = true := fun u hu => by have := x.one; rw [← Array.all_toList, List.all_eq_true] at this; exact this u hu
      have hO : O.length ≤ k := HSO.out.2.1
      have h64 : ¬ 64 < L.length := H64.out
      have q1 : O.length + 1 ≤ maxLen := by unfold maxLen; omega
      have q2 : (O.length + 1) * 128 ≤ 140737488355328 := by omega
      have q3 : w.heap.size ≤ (wr.alloc (.cells (rowOf [x]) 29)).heap.size := by simp; have := hbw.size; omega
      have hnews : ∀ (j : Nat) (u : Value), x.cells.toList[j]? = some u → (wr.alloc (.cells (rowOf [x]) 29)).cell? ((⟨wr.heap.size, 0, none⟩ : Addr).add j) = some u := by rw [← tcells_one]; exact World.news_of_block (cs := rowOf [x]) (t := 29) (fr := (0, 0)) (heap_alloc_new wr _)
      have TT := fun {ops : Array Oper} {rest : List Oper} {o : Oper} {a : Act} {Q : Exit → Act → World → Prop} (hgd : o.guard = none) (ho : o.op = .call { callee := .builtin .append, args := #[.tmp 68, .tmp 73], argTypes := #[35, 35] }) (v : Value) (hs : a.eval (.tmp 68) = v) (hown : (wr.alloc (.cells (rowOf [x]) 29)).ownsRow w.heap.size 29 19 v O.length (tcells O)) hx h => wpList_append_own (P := Try.prog) (ops := ops) (rest := rest) (o := o) (a := a) (Q := Q) _ hgd (.tmp 68) (.tmp 73) 35 ho w.heap.size 29 i0 _ 19 128 Try.underlying35 hi0 hz0 hz1 hz2 t0.size (by omega) v O.length (tcells O) hs hown ⟨wr.heap.size, 0, none⟩ 1 1 x.cells.toList hx (by rw [cells_len]) hnews hone q1 q2 q3 h
      clear hr h64 hO
      by_cases hq : ((m / 2 ^ k).tmod 2 == 0) = true
      · have GG : ∀ (v : Value) (w3 : World), wr.ownsRow w.heap.size 29 19 v O.length (tcells O) → (wr.alloc (.cells (rowOf [x]) 29)).grownBy w3 v.ownBlock → Below w.heap.size w w3 := fun v w3 hv hgrow => (hbw.alloc hbw.size _).grown hgrow q3 (fun q hq => (hv.lt q hq).1)
        go_wp2_with (at_builtin; refine TT rfl rfl _ rfl (HO.out.alloc _) rfl ?_; intro v' w3 hown3 hgrow _; have hb3 : Below w.heap.size w w3 := GG _ w3 HO.out hgrow)
        go_roundg (L.length - (k + 1))
        case measure => omega
        case rel =>
          refine ⟨k + 1, O ++ [x], by omega, rfl, by go_num, ?_, ?_, hb3⟩
          · rw [tcells_app, List.length_append]; exact hown3
          · rw [HX.out]; exact HSO.out.more HT.out hlt
      · have hq2 : ((m / 2 ^ k).tmod 2 == 0) = false := by simpa using hq
        go_wp2_with fail
        go_roundg (L.length - (k + 1))
        case measure => omega
        case rel => exact ⟨k + 1, O, by omega, rfl, by go_num, HO.out, HSO.out.skip, hbw⟩
    · obtain rfl : k = L.length := by omega
      have hki : ¬ (L.length : Int) < (L.length : Int) := by omega
      obtain ⟨A', c', rfl, hA'⟩ := tags_of_own HO.out
      have hall := HSO.out.all (by have := H64.out; omega)
      have hO : O.length ≤ L.length := HSO.out.2.1
      go_wp2_with fail
      (with_reducible refine (all_at A' O.length c' O 0 0 _ rfl hA' (HSO.out.fit (Nat.le_refl _) HN.out) (by omega) hall).mono ?_)
      rintro e w2 ⟨rfl, hb2⟩
      have hb3 : Below w.heap.size w w2 := hbw.trans (hb2.mono hbw.size)
      clear hb2
      go_wp2_with fail
      refine (known_any _).mono ?_
      rintro e w3 ⟨rfl, hb4⟩
      go_wp2_with fail
      go_ret
      exact ⟨rfl, hb3.trans (hb4.mono hb3.size)⟩
theorem own : ownKnob Try.prog.godebug = none := by kernel_rfl

set_option maxRecDepth 100000 in
theorem lifted (os : Os) (started : os.Started) (H : Type) (enc : TypeId × Value → H) :
    ReturnsInHanded {} Try.checked os 4 .any (Rows.tagsLessSpec.pre6 enc Try.prog Try.f4 Rows.tagsLessRow.domain false) (Rows.tagsLessSpec.post enc Try.prog Try.f4 false true false false) := by
  refine law_lifted (C := Try.checked) (tb := 4) own started (by kernel_rfl) Try.func4
    (ChangeSpec.witness6 (enc := enc) (C := Try.checked) false ⟨#[], #[.slice none 0 0, .int .u64 0], []⟩ 8 (by kernel_rfl) (by kernel_rfl) (by kernel_rfl) (by kernel_rfl))
    rfl (by kernel_rfl) (by kernel_rfl) (by kernel_rfl) Try.underlying4 (fun ds h => ?_) ?_
  · rw [show Try.f4.params = #[35, 36] from Try.params4] at h
    match ds, h with
    | [_, _], _ => rfl
  · intro W base args ds before hval hA hlt hsz
    rw [show Try.f4.params = #[35, 36] from Try.params4] at hA hval hsz
    obtain ⟨v0, vs0, d0, ds0, p0, q0, hargs, rfl, rfl, h0, r0⟩ := trodAll_cons hA
    obtain ⟨v1, vs1, d1, ds1, p1, q1, rfl, rfl, rfl, h1, r1⟩ := trodAll_cons r0
    obtain ⟨rfl, rfl, rfl⟩ := trodAll_nil r1
    obtain rfl : args = #[v0, v1] := by cases args; simp_all
    obtain ⟨A, ca, L, rfl, hlc, hcap, hT, hF⟩ := open_tags (hval 0 _ v0 rfl rfl) h0 hsz (j := 0) rfl rfl
    obtain ⟨m, rfl, hm⟩ := okWide_int Try.underlying36 (hval 1 _ v1 rfl rfl)
    exact walk A ca L m W hT (fun i hi => (hF i hi).g) hlc hcap

theorem proved : Rows.TagsLessSaid :=
  OpenClaim.holds_of_wide 4 Try.f4 rfl rfl rfl rfl rfl rfl rfl ⟨rfl, rfl, rfl, rfl, rfl⟩ rfl rfl rfl rfl rfl (by kernel_rfl) Try.func4 (by kernel_rfl)
    (of_decide_eq_true (by kernel_rfl)) (by unfold Func.isWrapper; rw [if_neg (of_decide_eq_false (by kernel_rfl))]; exact ⟨rfl, rfl⟩)
    (fun os started H enc _ => lifted os started H enc)
#print axioms proved
end TagsLess
end Go.Proofs.Ythnhholpkomdhaa
