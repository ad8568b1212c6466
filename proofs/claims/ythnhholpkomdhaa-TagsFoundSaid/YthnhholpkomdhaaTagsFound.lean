/-
  What is proved here: the law TagsFound returns true. Conditions: none beyond the form's.
-/
import Derived.Test.YthnhholpkomdhaaTagList
import Derived.Test.YthnhholpkomdhaaTagKnown
import Derived.Test.YthnhholpkomdhaaTagOrd
import Derived.Laws.Cover1
namespace Go.Proofs.Ythnhholpkomdhaa
namespace TagsFound
open Go.ChangeShapes Go.WideShapes Go.ChangeAt Go.RowKit Go.Deep
attribute [local go_sem ↓ high] loadTag_eq storeTag_eq
attribute [local go_sem] run_storeTag_new run_loadTag_new

def On (w w' : World) : Prop := Below w.heap.size w w'
theorem On.on {w wa wb : World} (h : On w wa) (hb : Below wa.heap.size wa wb) : On w wb := Below.trans h (hb.mono h.size)
theorem On.drewN {w wa : World} (h : On w wa) (n : Nat) : On w (wa.drewN n) := below_drewN h n
set_option maxRecDepth 100000 in
set_option maxHeartbeats 2000000 in
theorem walk (A : Option Addr) (ca : Nat) (L : List Tag) (g : ByteArray) (w : World) (hA : TagsAt w A L) (hN : NamesFit L) (hlen : L.length * 128 ≤ 140737488351232) :
    Calls Try.prog 7 #[.slice A L.length ca, .string g] w fun e w' => e = .returned (.bool true) ∧ Below w.heap.size w w' := by
  have HA := Lib.hid hA
  have HN := Lib.hid hN
  clear hA hN
  go_enter Try.func7, Try.ntmps7
  go_wp2_with fail
  refine (all_any A ca L _ HA.out HN.out (by omega)).mono ?_
  rintro e w1 ⟨rfl, hb1⟩
  obtain ⟨x, hx⟩ : ∃ x, x = (allOf L).1 := ⟨_, rfl⟩
  rw [← hx]
  obtain ⟨y, hy⟩ : ∃ y, y = (allOf L).2 := ⟨_, rfl⟩
  rw [← hy]
  by_cases hz : x = 0
  rotate_left
  · have n1 : (x != 0) = true := by rw [bne_iff_ne]; exact hz
    have hlt : y < L.length := by rw [hy]; exact all_wrong (by rw [← hx]; exact hz)
    clear hx hy hz
    have hyi : (y : Int) < (L.length : Int) := by omega
    have hy0 : (0 : Int) ≤ (y : Int) := by omega
    have hf := findOf_lt L g
    obtain ⟨q, hq⟩ : ∃ q, q = findOf L g := ⟨_, rfl⟩
    rw [← hq] at hf
    have HQ := Lib.hid hq
    clear hq
    go_wp2_with fail
    (with_reducible refine (find_8 A ca L g _ (HA.out.below hb1 (Nat.le_refl _)) (by omega)).mono ?_)
    rintro e w2 ⟨rfl, rfl⟩
    rw [← HQ.out]
    go_wp2_with fail
    refine (known_any _).mono ?_
    rintro e w3 ⟨rfl, hb3⟩
    go_wp2_with fail
    go_ret
    exact ⟨rfl, hb1.trans (hb3.mono hb1.size)⟩
  subst hz
  obtain ⟨hy2, h64, hT⟩ := all_zero hx.symm
  rw [hy2] at hy
  subst hy
  have HT := Lib.hid hT
  clear hx hy2 hT
  have g64 : ¬ (64 : Int) < (L.length : Int) := by omega
  have H64 := Lib.hid h64
  clear h64
  go_wp2_with fail
  go_loopg [7, 8] L.length (fun gg s i wr => ∃ k : Nat, k ≤ L.length ∧ gg = L.length - k ∧ i = .int .i64 k ∧ s = .int .i64 (thereTo L g k) ∧ On w wr)
  case atStart => exact ⟨0, Nat.zero_le _, rfl, rfl, rfl, hb1⟩
  case round =>
    obtain ⟨k, hk, rfl, rfl, rfl, hbw⟩ := hrel
    obtain ⟨th, hth⟩ : ∃ th, th = thereTo L g k := ⟨_, rfl⟩
    rw [← hth]
    have HTH := Lib.hid hth
    clear hth
    by_cases hlt : k < L.length
    · obtain ⟨b, off, rfl, hb, hrr⟩ := HA.out (by omega)
      have HRR := Lib.hid hrr
      clear hrr
      have HNX := Lib.hid (HN.out k hlt)
      have HR := Lib.hid (show ∀ w', On w w' → w'.rangeAt b (off + k * 19) (L.getD k t0).cells.toList from fun w' h => rangeAt_below (HRR.out k hlt) h hb)
      have HER := Lib.hid (HT.out.err hlt)
      have HFD := Lib.hid (HT.out.found hlt)
      obtain ⟨x, hx⟩ : ∃ x, x = L.getD k t0 := ⟨_, rfl⟩
      rw [← hx] at HR HNX HER HFD
      have HX := Lib.hid hx
      clear hx
      have HCK := Lib.hid (show ∀ W, Calls Try.prog 13 #[.agg x.cells] W fun e w' => e = .returned (.int .i64 0) ∧ Below W.heap.size W w' from fun W => (tag_check x W HNX.out).mono (fun e w' h => ⟨by rw [h.1, HER.out], h.2⟩))
      have HFI := Lib.hid (show ∀ W, On w W → Calls Try.prog 19 #[.slice (some ⟨b, off, none⟩) L.length ca, .string x.g] W fun e w' => e = .returned (.int .i64 (k : Int)) ∧ Below W.heap.size W w' from fun W h => (find_8 (some ⟨b, off, none⟩) ca L x.g W (HA.out.below h (Nat.le_refl _)) (by omega)).mono (fun e w' h => ⟨by rw [h.1, HFD.out], by rw [h.2]; exact Below.refl _ _⟩))
      have hki : (k : Int) < (L.length : Int) := by omega
      have hk0 : (0 : Int) ≤ (k : Int) := by omega
      have HBW := Lib.hid hbw
      go_upto_region 10 with fail
      go_cut [87] (fun s wx => s = .bool false ∧ On w wx)
      case first =>
       as_aux_lemma =>
        by_cases hk1 : 0 < k
        · obtain ⟨k', rfl⟩ : ∃ k', k = k' + 1 := ⟨k - 1, by omega⟩
          have HRY := Lib.hid (show ∀ w', On w w' → w'.cell? ⟨b, off + k' * 19, none⟩ = some (.string (L.getD k' t0).g) from fun w' h => range_name (rangeAt_below (HRR.out k' (by omega)) h hb))
          have HLS := Lib.hid (HT.out.step hlt)
          obtain ⟨y, hy⟩ : ∃ y, y = (L.getD k' t0).g := ⟨_, rfl⟩
          rw [← hy, ← HX.out] at HLS
          rw [← hy] at HRY
          have hls : Op.bytesLess y.toList x.g.toList = true := HLS.out
          clear hy
          have hk1' : (0 : Int) < (k' : Int) + 1 := by omega
          have hki' : (k' : Int) + 1 < (L.length : Int) := by omega
          have hk0' : (0 : Int) ≤ (k' : Int) + 1 := by omega
          have hk2 : (k' : Int) < (L.length : Int) := by omega
          have hk3 : (0 : Int) ≤ (k' : Int) := by omega
          have E1 : IntKind.i64.wrap ((k' : Int) + 1 - 1) = (k' : Int) := by rw [show (k' : Int) + 1 - 1 = k' by omega]; exact IntWalk.i64_in _ (by omega)
          have E2 : IntKind.i64.wrap (k' : Int) = (k' : Int) := IntWalk.i64_in _ (by omega)
          have HS := Lib.hid (show ∀ w', On w w' → (loadTag ⟨b, off + (k' + 1) * 19, none⟩).run Try.prog w' = .ok (.agg x.cells) w' ∧ w'.cell? ⟨b, off + (k' + 1) * 19, none⟩ = some (.string x.g) ∧ w'.cell? ⟨b, off + k' * 19, none⟩ = some (.string y) ∧ On w w' from fun w' h => ⟨range_load (HR.out w' h), range_name (HR.out w' h), HRY.out w' h, h⟩)
          go_region_held3 (fun w' => (loadTag ⟨b, off + (k' + 1) * 19, none⟩).run Try.prog w' = .ok (.agg x.cells) w' ∧ w'.cell? ⟨b, off + (k' + 1) * 19, none⟩ = some (.string x.g) ∧ w'.cell? ⟨b, off + k' * 19, none⟩ = some (.string y) ∧ On w w')
            (first
              | exact HS.out _ (HBW.out.drewN 1)
              | exact HS.out _ (On.on (HBW.out.drewN 1) hb1)
              | exact HS.out _ (On.on (by assumption) hb1)
              | (go_split_ands; exact HS.out _ (On.on (by assumption) hb1)))
            (first
              | (go_at_call 13; (with_reducible refine (HCK.out _).mono ?_); rintro e w' ⟨rfl, hb1⟩; have ho1 : On w w' := (by first | exact (HBW.out.drewN 1).on hb1 | exact HBW.out.on hb1))
              | (go_at_call 19; (with_reducible refine (HFI.out _ ho1).mono ?_); rintro e w' ⟨rfl, hb1⟩))
          go_wp2_with fail
          go_meet
          (try go_split_ands)
          exact ⟨rfl, by assumption⟩
        · obtain rfl : k = 0 := by omega
          have HS := Lib.hid (show ∀ w', On w w' → (loadTag ⟨b, off, none⟩).run Try.prog w' = .ok (.agg x.cells) w' ∧ w'.cell? ⟨b, off, none⟩ = some (.string x.g) ∧ On w w' from fun w' h => by have h1 := range_load (HR.out w' h); have h2 := range_name (HR.out w' h); rw [Nat.zero_mul, Nat.add_zero] at h1 h2; exact ⟨h1, h2, h⟩)
          have hk00 : (0 : Int) < (L.length : Int) := by omega
          have hk1' : decide ((0 : Int) < 0) = false := by decide
          -- HAND
          refine wp_region_held_drew (S := (fun w' => (loadTag ⟨b, off, none⟩).run Try.prog w' = .ok (.agg x.cells) w' ∧ w'.cell? ⟨b, off, none⟩ = some (.string x.g) ∧ On w w')) (by kernel_rfl) ?_ (fun hHeld => ?_)
          · exact HS.out _ (HBW.out.drewN 1)
          refine wpAnyH_take (i := 0) (v := ?_) (by (simp only [List.getElem?_toArray, List.getElem?_cons_zero]); exact rfl) (by kernel_rfl) (by kernel_rfl) (by kernel_rfl) (by intro _ _ _ h; exact h) (Or.inl ⟨by rfl, ?_⟩) (by assumption) ?_
          rotate_left
          · (intro w hSw; (try dsimp only at hSw); go_simp; (try with_reducible rfl))
          try simp only [Act.put, List.setIfInBounds_toArray, List.set_cons_zero, List.set_cons_succ]
          refine wpAnyH_take (i := 1) (v := ?_) (by (simp only [List.getElem?_toArray, List.getElem?_cons_zero, List.getElem?_cons_succ]); exact rfl) (by kernel_rfl) (by kernel_rfl) (by kernel_rfl) (by intro _ _ _ h; exact h) (Or.inl ⟨by rfl, ?_⟩) (by assumption) ?_
          rotate_left
          · (intro w hSw; (try dsimp only at hSw); go_simp; (try with_reducible rfl))
          try simp only [Act.put, List.setIfInBounds_toArray, List.set_cons_zero, List.set_cons_succ]
          refine wpAnyH_take (i := 2) (v := ?_) (by (simp only [List.getElem?_toArray, List.getElem?_cons_zero, List.getElem?_cons_succ]); exact rfl) (by kernel_rfl) (by kernel_rfl) (by kernel_rfl) (by intro _ _ _ h; exact h) (Or.inl ⟨by rfl, ?_⟩) (by assumption) ?_
          rotate_left
          · (intro w hSw; (try dsimp only at hSw); go_simp; (try with_reducible rfl))
          try simp only [Act.put, List.setIfInBounds_toArray, List.set_cons_zero, List.set_cons_succ]
          refine wpAnyH_take (i := 3) (v := ?_) (by (simp only [List.getElem?_toArray, List.getElem?_cons_zero, List.getElem?_cons_succ]); exact rfl) (by kernel_rfl) (by kernel_rfl) (by kernel_rfl) (by intro _ _ _ h; exact h) (Or.inl ⟨by rfl, ?_⟩) (by assumption) ?_
          rotate_left
          · (intro w hSw; (try dsimp only at hSw); go_simp; (try with_reducible rfl))
          try simp only [Act.put, List.setIfInBounds_toArray, List.set_cons_zero, List.set_cons_succ]
          refine wpAnyH_ready (rs := [4]) (by kernel_rfl) (by simp) ?_
          refine AllReadyH.cons (by (simp only [List.getElem?_toArray, List.getElem?_cons_zero, List.getElem?_cons_succ]); exact rfl) (fun K hK => ?_) AllReadyH.nil
          go_simp
          (go_at_call 13; (with_reducible refine (HCK.out _).mono ?_); rintro e w' ⟨rfl, hb1⟩; have ho1 : On w w' := (HBW.out.drewN 1).on hb1)
          refine hK.out _ _ ?_ (fun hHeld => ?_)
          · exact HS.out _ ho1
          clear hK K
          try simp only [Act.put, List.setIfInBounds_toArray, List.set_cons_zero, List.set_cons_succ]
          refine wpAnyH_take (i := 5) (v := ?_) (by (simp only [List.getElem?_toArray, List.getElem?_cons_zero, List.getElem?_cons_succ]); exact rfl) (by kernel_rfl) (by kernel_rfl) (by kernel_rfl) (by intro _ _ _ h; exact h) (Or.inl ⟨by rfl, ?_⟩) (by assumption) ?_
          rotate_left
          · (intro w hSw; (try dsimp only at hSw); go_simp; (try with_reducible rfl))
          try simp only [Act.put, List.setIfInBounds_toArray, List.set_cons_zero, List.set_cons_succ]
          refine wpAnyH_take (i := 6) (v := ?_) (by (simp only [List.getElem?_toArray, List.getElem?_cons_zero, List.getElem?_cons_succ]); exact rfl) (by kernel_rfl) (by kernel_rfl) (by kernel_rfl) (by intro _ _ _ h; exact h) (Or.inl ⟨by rfl, ?_⟩) (by assumption) ?_
          rotate_left
          · (intro w hSw; (try dsimp only at hSw); go_simp; (try with_reducible rfl))
          try simp only [Act.put, List.setIfInBounds_toArray, List.set_cons_zero, List.set_cons_succ]
          refine wpAnyH_take (i := 7) (v := ?_) (by (simp only [List.getElem?_toArray, List.getElem?_cons_zero, List.getElem?_cons_succ]); exact rfl) (by kernel_rfl) (by kernel_rfl) (by kernel_rfl) (by intro _ _ _ h; exact h) (Or.inl ⟨by rfl, ?_⟩) (by assumption) ?_
          rotate_left
          · (intro w hSw; (try dsimp only at hSw); go_simp; (try with_reducible rfl))
          try simp only [Act.put, List.setIfInBounds_toArray, List.set_cons_zero, List.set_cons_succ]
          refine wpAnyH_take (i := 8) (v := ?_) (by (simp only [List.getElem?_toArray, List.getElem?_cons_zero, List.getElem?_cons_succ]); exact rfl) (by kernel_rfl) (by kernel_rfl) (by kernel_rfl) (by intro _ _ _ h; exact h) (Or.inl ⟨by rfl, ?_⟩) (by assumption) ?_
          rotate_left
          · (intro w hSw; (try dsimp only at hSw); go_simp; (try with_reducible rfl))
          try simp only [Act.put, List.setIfInBounds_toArray, List.set_cons_zero, List.set_cons_succ]
          refine wpAnyH_take (i := 9) (v := ?_) (by (simp only [List.getElem?_toArray, List.getElem?_cons_zero, List.getElem?_cons_succ]); exact rfl) (by kernel_rfl) (by kernel_rfl) (by kernel_rfl) (by intro _ _ _ h; exact h) (Or.inl ⟨by rfl, ?_⟩) (by assumption) ?_
          rotate_left
          · (intro w hSw; (try dsimp only at hSw); go_simp; (try with_reducible rfl))
          try simp only [Act.put, List.setIfInBounds_toArray, List.set_cons_zero, List.set_cons_succ]
          refine wpAnyH_take (i := 10) (v := ?_) (by (simp only [List.getElem?_toArray, List.getElem?_cons_zero, List.getElem?_cons_succ]); exact rfl) (by kernel_rfl) (by kernel_rfl) (by kernel_rfl) (by intro _ _ _ h; exact h) (Or.inl ⟨by rfl, ?_⟩) (by assumption) ?_
          rotate_left
          · (intro w hSw; (try dsimp only at hSw); go_simp; (try with_reducible rfl))
          try simp only [Act.put, List.setIfInBounds_toArray, List.set_cons_zero, List.set_cons_succ]
          refine wpAnyH_take (i := 11) (v := ?_) (by (simp only [List.getElem?_toArray, List.getElem?_cons_zero, List.getElem?_cons_succ]); exact rfl) (by kernel_rfl) (by kernel_rfl) (by kernel_rfl) (by intro _ _ _ h; exact h) (Or.inl ⟨by rfl, ?_⟩) (by assumption) ?_
          rotate_left
          · (intro w hSw; (try dsimp only at hSw); go_simp; (try with_reducible rfl))
          try simp only [Act.put, List.setIfInBounds_toArray, List.set_cons_zero, List.set_cons_succ]
          refine wpAnyH_take (i := 12) (v := ?_) (by (simp only [List.getElem?_toArray, List.getElem?_cons_zero, List.getElem?_cons_succ]); exact rfl) (by kernel_rfl) (by kernel_rfl) (by kernel_rfl) (by intro _ _ _ h; exact h) (Or.inl ⟨by rfl, ?_⟩) (by assumption) ?_
          rotate_left
          · (intro w hSw; (try dsimp only at hSw); go_simp; (try with_reducible rfl))
          try simp only [Act.put, List.setIfInBounds_toArray, List.set_cons_zero, List.set_cons_succ]
          refine wpAnyH_take (i := 14) (v := ?_) (by (simp only [List.getElem?_toArray, List.getElem?_cons_zero, List.getElem?_cons_succ]); exact rfl) (by kernel_rfl) (by kernel_rfl) (by kernel_rfl) (by intro _ _ _ h; exact h) (Or.inl ⟨by rfl, ?_⟩) (by assumption) ?_
          rotate_left
          · (intro w hSw; (try dsimp only at hSw); go_simp; (try with_reducible rfl))
          try simp only [Act.put, List.setIfInBounds_toArray, List.set_cons_zero, List.set_cons_succ]
          refine wpAnyH_ready (rs := [13]) (by kernel_rfl) (by simp) ?_
          refine AllReadyH.cons (by (simp only [List.getElem?_toArray, List.getElem?_cons_zero, List.getElem?_cons_succ]); exact rfl) (fun K hK => ?_) AllReadyH.nil
          go_simp
          (go_at_call 19; (with_reducible refine (HFI.out _ ho1).mono ?_); rintro e w'' ⟨rfl, hb2⟩; have ho2 : On w w'' := ho1.on hb2)
          refine hK.out _ _ ?_ (fun hHeld => ?_)
          · exact HS.out _ ho2
          clear hK K
          try simp only [Act.put, List.setIfInBounds_toArray, List.set_cons_zero, List.set_cons_succ]
          refine wpAnyH_take (i := 15) (v := ?_) (by (simp only [List.getElem?_toArray, List.getElem?_cons_zero, List.getElem?_cons_succ]); exact rfl) (by kernel_rfl) (by kernel_rfl) (by kernel_rfl) (by intro _ _ _ h; exact h) (Or.inl ⟨by rfl, ?_⟩) (by assumption) ?_
          rotate_left
          · (intro w hSw; (try dsimp only at hSw); go_simp; (try with_reducible rfl))
          try simp only [Act.put, List.setIfInBounds_toArray, List.set_cons_zero, List.set_cons_succ]
          refine wpAnyH_take (i := 16) (v := ?_) (by (simp only [List.getElem?_toArray, List.getElem?_cons_zero, List.getElem?_cons_succ]); exact rfl) (by kernel_rfl) (by kernel_rfl) (by kernel_rfl) (by intro _ _ _ h; exact h) (Or.inl ⟨by rfl, ?_⟩) (by assumption) ?_
          rotate_left
          · (intro w hSw; (try dsimp only at hSw); go_simp; (try with_reducible rfl))
          try simp only [Act.put, List.setIfInBounds_toArray, List.set_cons_zero, List.set_cons_succ]
          refine wpAnyH_take (i := 17) (v := ?_) (by (simp only [List.getElem?_toArray, List.getElem?_cons_zero, List.getElem?_cons_succ]); exact rfl) (by kernel_rfl) (by kernel_rfl) (by kernel_rfl) (by intro _ _ _ h; exact h) (Or.inl ⟨by rfl, ?_⟩) (by assumption) ?_
          rotate_left
          · (intro w hSw; (try dsimp only at hSw); go_simp; (try with_reducible rfl))
          try simp only [Act.put, List.setIfInBounds_toArray, List.set_cons_zero, List.set_cons_succ]
          refine wpAnyH_take (i := 18) (v := ?_) (by (simp only [List.getElem?_toArray, List.getElem?_cons_zero, List.getElem?_cons_succ]); exact rfl) (by kernel_rfl) (by kernel_rfl) (by kernel_rfl) (by intro _ _ _ h; exact h) (Or.inl ⟨by rfl, ?_⟩) (by assumption) ?_
          rotate_left
          · (intro w hSw; (try dsimp only at hSw); go_simp; (try with_reducible rfl))
          try simp only [Act.put, List.setIfInBounds_toArray, List.set_cons_zero, List.set_cons_succ]
          refine wpAnyH_take (i := 19) (v := ?_) (by (simp only [List.getElem?_toArray, List.getElem?_cons_zero, List.getElem?_cons_succ]); exact rfl) (by kernel_rfl) (by kernel_rfl) (by kernel_rfl) (by intro _ _ _ h; exact h) (Or.inl ⟨by rfl, ?_⟩) (by assumption) ?_
          rotate_left
          · (intro w hSw; (try dsimp only at hSw); go_simp; (try with_reducible rfl))
          try simp only [Act.put, List.setIfInBounds_toArray, List.set_cons_zero, List.set_cons_succ]
          refine wpAnyH_take (i := 20) (v := ?_) (by (simp only [List.getElem?_toArray, List.getElem?_cons_zero, List.getElem?_cons_succ]); exact rfl) (by kernel_rfl) (by kernel_rfl) (by kernel_rfl) (by intro _ _ _ h; exact h) (Or.inl ⟨by rfl, ?_⟩) (by assumption) ?_
          rotate_left
          · (intro w hSw; (try dsimp only at hSw); go_simp; (try with_reducible rfl))
          try simp only [Act.put, List.setIfInBounds_toArray, List.set_cons_zero, List.set_cons_succ]
          refine wpAnyH_take (i := 21) (v := undef) (by (simp only [List.getElem?_toArray, List.getElem?_cons_zero, List.getElem?_cons_succ]); exact rfl) (by kernel_rfl) (by kernel_rfl) (by kernel_rfl) (by intro _ _ _ h; exact h) (Or.inr ⟨by rfl, rfl⟩) (by assumption) ?_
          try simp only [Act.put, List.setIfInBounds_toArray, List.set_cons_zero, List.set_cons_succ]
          refine wpAnyH_take (i := 22) (v := undef) (by (simp only [List.getElem?_toArray, List.getElem?_cons_zero, List.getElem?_cons_succ]); exact rfl) (by kernel_rfl) (by kernel_rfl) (by kernel_rfl) (by intro _ _ _ h; exact h) (Or.inr ⟨by rfl, rfl⟩) (by assumption) ?_
          try simp only [Act.put, List.setIfInBounds_toArray, List.set_cons_zero, List.set_cons_succ]
          refine wpAnyH_take (i := 23) (v := undef) (by (simp only [List.getElem?_toArray, List.getElem?_cons_zero, List.getElem?_cons_succ]); exact rfl) (by kernel_rfl) (by kernel_rfl) (by kernel_rfl) (by intro _ _ _ h; exact h) (Or.inr ⟨by rfl, rfl⟩) (by assumption) ?_
          try simp only [Act.put, List.setIfInBounds_toArray, List.set_cons_zero, List.set_cons_succ]
          refine wpAnyH_take (i := 24) (v := undef) (by (simp only [List.getElem?_toArray, List.getElem?_cons_zero, List.getElem?_cons_succ]); exact rfl) (by kernel_rfl) (by kernel_rfl) (by kernel_rfl) (by intro _ _ _ h; exact h) (Or.inr ⟨by rfl, rfl⟩) (by assumption) ?_
          try simp only [Act.put, List.setIfInBounds_toArray, List.set_cons_zero, List.set_cons_succ]
          refine wpAnyH_take (i := 25) (v := undef) (by (simp only [List.getElem?_toArray, List.getElem?_cons_zero, List.getElem?_cons_succ]); exact rfl) (by kernel_rfl) (by kernel_rfl) (by kernel_rfl) (by intro _ _ _ h; exact h) (Or.inr ⟨by rfl, rfl⟩) (by assumption) ?_
          try simp only [Act.put, List.setIfInBounds_toArray, List.set_cons_zero, List.set_cons_succ]
          refine wpAnyH_take (i := 26) (v := undef) (by (simp only [List.getElem?_toArray, List.getElem?_cons_zero, List.getElem?_cons_succ]); exact rfl) (by kernel_rfl) (by kernel_rfl) (by kernel_rfl) (by intro _ _ _ h; exact h) (Or.inr ⟨by rfl, rfl⟩) (by assumption) ?_
          try simp only [Act.put, List.setIfInBounds_toArray, List.set_cons_zero, List.set_cons_succ]
          refine wpAnyH_take (i := 27) (v := undef) (by (simp only [List.getElem?_toArray, List.getElem?_cons_zero, List.getElem?_cons_succ]); exact rfl) (by kernel_rfl) (by kernel_rfl) (by kernel_rfl) (by intro _ _ _ h; exact h) (Or.inr ⟨by rfl, rfl⟩) (by assumption) ?_
          try simp only [Act.put, List.setIfInBounds_toArray, List.set_cons_zero, List.set_cons_succ]
          refine wpAnyH_take (i := 28) (v := undef) (by (simp only [List.getElem?_toArray, List.getElem?_cons_zero, List.getElem?_cons_succ]); exact rfl) (by kernel_rfl) (by kernel_rfl) (by kernel_rfl) (by intro _ _ _ h; exact h) (Or.inr ⟨by rfl, rfl⟩) (by assumption) ?_
          try simp only [Act.put, List.setIfInBounds_toArray, List.set_cons_zero, List.set_cons_succ]
          refine wpAnyH_take (i := 29) (v := undef) (by (simp only [List.getElem?_toArray, List.getElem?_cons_zero, List.getElem?_cons_succ]); exact rfl) (by kernel_rfl) (by kernel_rfl) (by kernel_rfl) (by intro _ _ _ h; exact h) (Or.inr ⟨by rfl, rfl⟩) (by assumption) ?_
          try simp only [Act.put, List.setIfInBounds_toArray, List.set_cons_zero, List.set_cons_succ]
          refine wpAnyH_take (i := 30) (v := undef) (by (simp only [List.getElem?_toArray, List.getElem?_cons_zero, List.getElem?_cons_succ]); exact rfl) (by kernel_rfl) (by kernel_rfl) (by kernel_rfl) (by intro _ _ _ h; exact h) (Or.inr ⟨by rfl, rfl⟩) (by assumption) ?_
          try simp only [Act.put, List.setIfInBounds_toArray, List.set_cons_zero, List.set_cons_succ]
          refine wpAnyH_take (i := 31) (v := undef) (by (simp only [List.getElem?_toArray, List.getElem?_cons_zero, List.getElem?_cons_succ]); exact rfl) (by kernel_rfl) (by kernel_rfl) (by kernel_rfl) (by intro _ _ _ h; exact h) (Or.inr ⟨by rfl, rfl⟩) (by assumption) ?_
          try simp only [Act.put, List.setIfInBounds_toArray, List.set_cons_zero, List.set_cons_succ]
          refine wpAnyH_take (i := 32) (v := undef) (by (simp only [List.getElem?_toArray, List.getElem?_cons_zero, List.getElem?_cons_succ]); exact rfl) (by kernel_rfl) (by kernel_rfl) (by kernel_rfl) (by intro _ _ _ h; exact h) (Or.inr ⟨by rfl, rfl⟩) (by assumption) ?_
          try simp only [Act.put, List.setIfInBounds_toArray, List.set_cons_zero, List.set_cons_succ]
          refine wpAnyH_take (i := 33) (v := ?_) (by (simp only [List.getElem?_toArray, List.getElem?_cons_zero, List.getElem?_cons_succ]); exact rfl) (by kernel_rfl) (by kernel_rfl) (by kernel_rfl) (by intro _ _ _ h; exact h) (Or.inl ⟨by rfl, ?_⟩) (by assumption) ?_
          rotate_left
          · (intro w hSw; (try dsimp only at hSw); go_simp; (try with_reducible rfl))
          try simp only [Act.put, List.setIfInBounds_toArray, List.set_cons_zero, List.set_cons_succ]
          refine wpAnyH_take (i := 34) (v := ?_) (by (simp only [List.getElem?_toArray, List.getElem?_cons_zero, List.getElem?_cons_succ]); exact rfl) (by kernel_rfl) (by kernel_rfl) (by kernel_rfl) (by intro _ _ _ h; exact h) (Or.inl ⟨by rfl, ?_⟩) (by assumption) ?_
          rotate_left
          · (intro w hSw; (try dsimp only at hSw); go_simp; (try with_reducible rfl))
          try simp only [Act.put, List.setIfInBounds_toArray, List.set_cons_zero, List.set_cons_succ]
          refine wpAnyH_done (by kernel_rfl) ?_ _
          -- END HAND
          go_wp2_with fail
          go_meet
          (try go_split_ands)
          exact ⟨rfl, by assumption⟩
      obtain ⟨rfl, hO⟩ := hcut
      obtain ⟨w2, rfl⟩ : ∃ wq : World, wq = wc := ⟨_, rfl⟩
      have c0 := range_name (HR.out _ hO)
      have HO := Lib.hid hO
      clear hO hbw
      obtain ⟨q, hq⟩ : ∃ q, q = sEq x.g g := ⟨_, rfl⟩
      have hq' : (x.g.toList == g.toList) = q := hq.symm
      have HQ := Lib.hid (show sEq (L.getD k t0).g g = q by rw [← HX.out, hq])
      clear hq
      cases q
      · have HTN := Lib.hid (show thereTo L g (k + 1) = th by rw [thereTo_no HQ.out, HTH.out])
        go_wp2_with fail
        go_roundg (L.length - (k + 1))
        case measure => omega
        case rel => exact ⟨k + 1, by omega, rfl, by go_num, by rw [HTN.out], HO.out⟩
      · have HTN := Lib.hid (show thereTo L g (k + 1) = (k : Int) from thereTo_yes HT.out hlt HQ.out)
        go_wp2_with fail
        go_roundg (L.length - (k + 1))
        case measure => omega
        case rel => exact ⟨k + 1, by omega, rfl, by go_num, by rw [HTN.out], HO.out⟩
    · obtain rfl : k = L.length := by omega
      have hki : ¬ (L.length : Int) < (L.length : Int) := by omega
      have HTE := Lib.hid (show th = findOf L g by rw [HTH.out, thereTo_all])
      have hbw2 : Below w.heap.size w wr := hbw
      have HBW := Lib.hid hbw
      clear hbw
      go_wp2_with fail
      (with_reducible refine (find_8 A ca L g _ (HA.out.below hbw2 (Nat.le_refl _)) (by omega)).mono ?_)
      rintro e w2 ⟨rfl, rfl⟩
      rw [← HTE.out]
      go_wp2_with fail
      refine (known_any _).mono ?_
      rintro e w3 ⟨rfl, hb3⟩
      go_wp2_with fail
      go_ret
      exact ⟨rfl, HBW.out.on hb3⟩

theorem own : ownKnob Try.prog.godebug = none := by kernel_rfl

set_option maxRecDepth 100000 in
theorem lifted (os : Os) (started : os.Started) (H : Type) (enc : TypeId × Value → H) :
    ReturnsInHanded {} Try.checked os 7 .any (Rows.tagsFoundSpec.pre6 enc Try.prog Try.f7 Rows.tagsFoundRow.domain false) (Rows.tagsFoundSpec.post enc Try.prog Try.f7 false true false false) := by
  refine law_lifted (C := Try.checked) (tb := 4) own started (by kernel_rfl) Try.func7
    (ChangeSpec.witness6 (enc := enc) (C := Try.checked) false ⟨#[], #[.slice none 0 0, .string ByteArray.empty], []⟩ 8 (by kernel_rfl) (by kernel_rfl) (by kernel_rfl) (by kernel_rfl))
    rfl (by kernel_rfl) (by kernel_rfl) (by kernel_rfl) Try.underlying4 (fun ds h => ?_) ?_
  · rw [show Try.f7.params = #[35, 9] from Try.params7] at h
    match ds, h with
    | [_, _], _ => rfl
  · intro W base args ds before hval hA hlt hsz
    rw [show Try.f7.params = #[35, 9] from Try.params7] at hA hval hsz
    obtain ⟨v0, vs0, d0, ds0, p0, q0, hargs, rfl, rfl, h0, r0⟩ := trodAll_cons hA
    obtain ⟨v1, vs1, d1, ds1, p1, q1, rfl, rfl, rfl, h1, r1⟩ := trodAll_cons r0
    obtain ⟨rfl, rfl, rfl⟩ := trodAll_nil r1
    obtain rfl : args = #[v0, v1] := by cases args; simp_all
    obtain ⟨A, ca, L, rfl, hlc, hcap, hT, hF⟩ := open_tags (hval 0 _ v0 rfl rfl) h0 hsz (j := 0) rfl rfl
    obtain ⟨g, rfl⟩ := okWide_string Try.underlying9 (hval 1 _ v1 rfl rfl)
    exact walk A ca L g W hT (fun i hi => (hF i hi).g) (by omega)

theorem proved : Rows.TagsFoundSaid :=
  OpenClaim.holds_of_wide 7 Try.f7 rfl rfl rfl rfl rfl rfl rfl ⟨rfl, rfl, rfl, rfl, rfl⟩ rfl rfl rfl rfl rfl (by kernel_rfl) Try.func7 (by kernel_rfl)
    (of_decide_eq_true (by kernel_rfl)) (by unfold Func.isWrapper; rw [if_neg (of_decide_eq_false (by kernel_rfl))]; exact ⟨rfl, rfl⟩)
    (fun os started H enc _ => lifted os started H enc)
#print axioms proved
end TagsFound
end Go.Proofs.Ythnhholpkomdhaa
