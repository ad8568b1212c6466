/-
  What is proved here: the sum of a chunk, and Put, of package chunk and of its reference (chapter 13). Conditions: bytes are bytes.
-/
import Derived.Test.YtjpbmapnagkonaaChkCrc
import Derived.Test.YtjpbmapnagkonaaKitBytes
import Derived.Laws.CopyOwn
namespace Go.Proofs.Ytjpbmapnagkonaa
open Go.RowKit Go.Deep Go.Joins Go.WideShapes

theorem irow_blk {k : IntKind} {E : TypeId} {w : World} {g n : Nat} {L : List Int} {cs : Array Value} (h : Blk w g E cs) (e : cs.toList = L.map (Value.int k)) (hn : L.length = n) : IRow k E w g n L := by
  subst hn
  have hl : cs.size = L.length := by rw [← Array.length_toList, e, List.length_map]
  exact ⟨cs, h, hl, Nat.le_refl _, by rw [e]; exact List.take_of_length_le (by simp), by rw [e]; exact ints_all k L⟩

def headL (n : Nat) : List Int := [(n : Int) / 256, (n : Int) % 256]
def sumL (p : List Int) : Int := moreI (moreI 0 (headL p.length)) p
theorem headL_u8 {n : Nat} (hn : n ≤ 65535) : ∀ x ∈ headL n, U8 x := by
  intro x hx
  simp [headL] at hx
  unfold U8
  rcases hx with rfl | rfl <;> omega
theorem sumL_in {p : List Int} (hp : ∀ x ∈ p, U8 x) (hn : p.length ≤ 65535) : U32 (sumL p) := moreI_in (moreI_in ⟨by decide, by decide⟩ (headL_u8 hn)) hp

theorem more_at (c : Int) (A : Option Addr) (n cap : Nat) (L : List Int) (w : World) (hn : L.length = n) (hc : U32 c) (hA : IntsAt .u8 w A L) (hL : ∀ x ∈ L, U8 x) (hl : n ≤ 140737488351232) :
    Calls Try.prog 29 #[.int .u32 c, .slice A n cap] w fun e w' => e = .returned (.int .u32 (moreI c L)) ∧ Below w.heap.size w w' := by
  subst hn
  exact more_any c A cap L w hc hA hL hl
theorem rmore_at (c : Int) (A : Option Addr) (n cap : Nat) (L : List Int) (w : World) (hn : L.length = n) (hc : U32 c) (hA : IntsAt .u8 w A L) (hL : ∀ x ∈ L, U8 x) (hl : n ≤ 140737488351232) :
    Calls Try.prog 26 #[.int .u32 c, .slice A n cap] w fun e w' => e = .returned (.int .u32 (moreI c L)) ∧ Below w.heap.size w w' := by
  subst hn
  exact rmore_any c A cap L w hc hA hL hl

set_option maxHeartbeats 1000000 in
theorem sum_any (A : Option Addr) (cap : Nat) (L : List Int) (w : World) (hA : IntsAt .u8 w A L) (hL : ∀ x ∈ L, U8 x) (hn : L.length ≤ 65535) :
    Calls Try.prog 25 #[.slice A L.length cap] w fun e w' => e = .returned (.int .u32 (sumL L)) ∧ Below w.heap.size w w' := by
  have HA := Lib.hid hA
  have HL := Lib.hid hL
  have HU := Lib.hid (headL_u8 hn)
  have HS := Lib.hid (show sumL L = moreI (moreI 0 (headL L.length)) L from rfl)
  have HH := Lib.hid (show headL L.length = [(L.length : Int) / 256, (L.length : Int) % 256] from rfl)
  have HC := Lib.hid (moreI_in (c := 0) ⟨by decide, by decide⟩ (headL_u8 hn))
  obtain ⟨n, hnn⟩ : ∃ n, n = L.length := ⟨_, rfl⟩
  have HN := Lib.hid hnn.symm
  rw [← hnn] at hn HU HH HS HC ⊢
  clear hnn hA hL
  have e1 : (n : Int) / 256 ≤ 255 := by omega
  have e2 : 0 ≤ (n : Int) / 256 := by omega
  go_enter Try.func25, Try.ntmps25
  go_wp2_with fail
  refine (crc_any _ 2 (headL n) _ ((irow_blk (Blk.new _ _ _) (by rw [HH.out]; rfl) rfl).at_) HU.out (by rw [HH.out]; simp)).mono ?_
  rintro e w1 ⟨rfl, hb1⟩
  have HW := Lib.hid (((Below.refl w.heap.size w).alloc (Nat.le_refl _) (.cells #[.int .u8 ((n : Int) / 256), .int .u8 ((n : Int) % 256)] 5)).trans (hb1.mono (by simp)))
  clear hb1
  go_wp2_with fail
  refine (more_at _ A n cap L w1 HN.out HC.out (HA.out.below HW.out (Nat.le_refl _)) HL.out (by omega)).mono ?_
  rintro e w2 ⟨rfl, hb2⟩
  go_wp2_with fail
  go_ret
  exact ⟨ret_int HS.out.symm, HW.out.trans (hb2.mono HW.out.size)⟩
theorem sum_at (A : Option Addr) (n cap : Nat) (L : List Int) (w : World) (hn : L.length = n) (hA : IntsAt .u8 w A L) (hL : ∀ x ∈ L, U8 x) (hl : n ≤ 65535) :
    Calls Try.prog 25 #[.slice A n cap] w fun e w' => e = .returned (.int .u32 (sumL L)) ∧ Below w.heap.size w w' := by
  subst hn
  exact sum_any A cap L w hA hL hl

/-- append onto a row of the call's own, whatever the source: nil, empty or not. -/
theorem wpList_append_G_any {P : Program} (w : World) {ops : Array Oper} {rest : List Oper} {o : Oper} {a : Act} {Q : Exit → Act → World → Prop} (hgd : o.guard = none) (s x : Operand) (t : TypeId)
    (ho : o.op = .call { callee := .builtin .append, args := #[s, x], argTypes := #[t, t] })
    (Good : Value → Prop) (base : Nat) (e : TypeId) (i : TypeInfo) (z : Value) (size bytes : Nat) (ht : P.underlying t = some (.slice e)) (hi : P.info? e = some i) (hz : i.zero = some z)
    (hsize : i.size = size) (hby : i.bytes = bytes) (hzs : z.cells.size = size) (hsz : 0 < size)
    (v : Value) (n : Nat) (xs : List Value) (hs : a.eval s = v) (hown : OwnG Good w base e size v n xs)
    (ao : Option Addr) (m c : Nat) (news : List Value) (hx : a.eval x = .slice ao m c) (hl : news.length = m * size) (hnone : ao = none → m = 0 ∧ c = 0) (hnews : ∀ ad, ao = some ad → ∀ j u, news[j]? = some u → w.cell? (ad.add j) = some u) (h1 : ∀ u ∈ news, u.oneCell' = true)
    (h63 : n + m ≤ maxLen) (hbytes : (n + m) * bytes ≤ 140737488355328) (hbase : base ≤ w.heap.size)
    (gz : ∀ u ∈ z.cells.toList, Good u) (gn : ∀ u ∈ news, Good u) (gx : ∀ u ∈ xs, Good u)
    (h : ∀ v' w', OwnG Good w' base e size v' (n + m) (xs ++ news) → w.grownBy w' v.ownBlock → wpList P ops Q rest (a.put o.dst v') w') : wpList P ops Q (o :: rest) a w := by
  cases ao with
  | some ad => exact wpList_append_G w hgd s x t ho Good base e i z size bytes ht hi hz hsize hby hzs hsz v n xs hs hown ad m c news hx hl (hnews ad rfl) h1 h63 hbytes hbase gz gn gx h
  | none =>
    obtain ⟨rfl, rfl⟩ := hnone rfl
    have hnn : news = [] := List.eq_nil_of_length_eq_zero (by simpa using hl)
    subst hnn
    refine wpList_plain hgd fun K hK' => ?_
    have hrun := run_append_owned_none (P := P) w base t o.type e i size ht hi v n xs hown.1
    unfold Oper.wp
    simp [execOp, ho, resolve, invoke, builtin, hs, hx, hrun, Result.andThen]
    exact hK' _ _ (by simpa using h v w (by simpa using hown) (only_refl _ _))

/-- bytes in memory of their own, and how it went. -/
def PutBack (L : List Int) (l : Nat) (n : Int) (w : World) (e : Ending) (w' : World) : Prop :=
  ∃ A cap, e = .returned (.tuple #[.slice A l cap, .int .i64 n]) ∧ L.length = l ∧ OwnG (IsIntK .u8) w' w.heap.size 5 1 (.slice A l cap) l (L.map (Value.int .u8)) ∧ Below w.heap.size w w'
def tailL (s : Int) : List Int := [s / 16777216, s / 65536 % 256, s / 256 % 256, s % 256]
def putL (p : List Int) : List Int := headL p.length ++ tailL (sumL p) ++ p
theorem putL_len (p : List Int) : (putL p).length = 6 + p.length := by simp [putL, headL, tailL]; omega
theorem OwnG.slice {Good : Value → Prop} {w : World} {base : Nat} {e : TypeId} {size : Nat} {v : Value} {n : Nat} {xs : List Value} (h : OwnG Good w base e size v n xs) : ∃ A cap, v = .slice A n cap := by
  rcases h.1.2 with ⟨hv, h0⟩ | ⟨g, cap, cur, hv, _⟩
  · exact ⟨none, 0, by rw [hv, h0]⟩
  · exact ⟨_, cap, hv⟩
end Go.Proofs.Ytjpbmapnagkonaa
