/-
  What is proved here: a record is itself; bytes lent and looked at again; what is read is right (chapter 11). Conditions: each theorem's own.
-/
import Derived.Test.YtognidoohinipaaRecRGet
namespace Go.Proofs.Ytognidoohinipaa
open Go.ChangeShapes Go.WideShapes Go.ChangeAt Go.RowKit Go.Deep Go.Joins

theorem recT : Try.prog.underlying 23 = some (.struct (Try.prog.fieldsOf 23)) := by kernel_rfl
theorem recH : Try.prog.stoodInHeld 23 = false := by kernel_rfl
theorem eq_rec (k t v i : Int) (g : ByteArray) (w : World) : (binOp .eql 23 (.agg #[.int .i64 k, .int .i64 t, .string g, .int .i64 v, .int .i64 i]) (.agg #[.int .i64 k, .int .i64 t, .string g, .int .i64 v, .int .i64 i])).run Try.prog w = .ok (.bool true) w := by
  rw [run_eql_struct, run_equalIn_agg _ _ _ _ _ recT recH]
  simp [go_sem]
theorem lent_to (A : Option Addr) (n cap : Nat) (L : List Int) (w : World) (hn : L.length = n) (hA : IntsAt .u8 w A L) (hlen : n ≤ 140737488351232) :
    Calls Try.prog 14 #[.slice A n cap] w fun e w' => ∃ g, e = .returned (.slice (some ⟨g, 0, none⟩) n (n + 5)) ∧ w.heap.size ≤ g ∧ IRow .u8 5 w' g (n + 5) (Bytes.lentL L) ∧ Below w.heap.size w w' := by
  subst hn
  exact Bytes.lent_any A cap L w hA (by omega)
theorem kept_to (g n ca cb : Nat) (B : Option Addr) (L : List Int) (w : World) (hn : L.length = n) (hblk : IRow .u8 5 w g (n + 5) (Bytes.lentL L)) (hB : IntsAt .u8 w B L) (hlen : n ≤ 140737488351232) (hca : ca = n + 5) :
    Calls Try.prog 17 #[.slice (some ⟨g, 0, none⟩) n ca, .slice B n cb] w fun e w' => e = .returned (.bool true) ∧ Below w.heap.size w w' := by
  subst hn
  exact Bytes.kept_any g ca B cb L w hblk hB hlen hca
theorem open_bytes {H : Type} {enc : TypeId × Value → H} {W : World} {b0 : Nat} {v : Value} {d : DataW H} {p : List MemPlace}
    (hv : Value.okWide Try.prog W .any b0 24 v) (h : DataW.Trod enc Try.prog W 0 (fun _ => true) true 24 v d p)
    {ts : List TypeId} {ds : List (DataW H)} (hsz : (DataW.weightsEach Try.prog ts ds).all (· ≤ reachBytes) = true) {j : Nat} (hj : ts[j]? = some 24) (hd : ds[j]? = some d) :
    ∃ (A : Option Addr) (cap : Nat) (L : List Int), v = .slice A L.length cap ∧ L.length ≤ cap ∧ cap ≤ 140737488351232 ∧ IntsAt .u8 W A L ∧ (∀ x ∈ L, U8 x) ∧ (A = none → cap = 0) := by
  have h' := h
  obtain ⟨A, cap, L, rfl, h1, h2, h3, h4⟩ := open_ints_at (k := .u8) (n := 1) Try.underlying24 Try.underlying5 (by kernel_rfl) (by kernel_rfl) hv h hsz hj hd
  refine ⟨A, cap, L, rfl, h1, by omega, h3, fun x hx => ?_, fun e => ?_⟩
  · have := h4 x hx
    simp [Lit.wf, IntKind.min, IntKind.max, IntKind.signed, IntKind.bits] at this
    exact ⟨by omega, by omega⟩
  · obtain ⟨fuel, hf⟩ := h'
    rcases open_ints Try.underlying24 Try.underlying5 (by kernel_rfl) hf with ⟨hcs, _⟩ | ⟨a, l0, c0, zs, hcs, _⟩
    · simp only [Value.cells, List.cons.injEq, and_true, Value.slice.injEq] at hcs
      exact hcs.2.2
    · simp only [Value.cells, List.cons.injEq, and_true, Value.slice.injEq] at hcs
      rw [e] at hcs
      cases hcs.1
end Go.Proofs.Ytognidoohinipaa
