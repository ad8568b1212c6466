/-
  What is proved here: a tag is read out of memory and written into it as one value; a right tag of a name (chapter 9). Conditions: each theorem's own.
-/
import Derived.Test.YthnhholpkomdhaaTagRCheck
import Derived.Deep.WholeRow
import Derived.Deep.MidRow
namespace Go.Proofs.Ythnhholpkomdhaa
open Go.RowKit Go.Deep

theorem Tag.size (t : Tag) : t.cells.size = 19 := rfl
theorem Tag.one (t : Tag) : t.cells.all (·.oneCell') = true := by simp [Tag.cells, Value.oneCell']
/-- the store of a whole tag. -/
def storeTag (a : Addr) (v : Value) : Sem Unit := storeVar 29 a v
theorem storeTag_eq (a : Addr) (v : Value) : storeVar 29 a v = storeTag a v := rfl
theorem run_storeTag_new (w : World) (c : Array Value) (t : Tag) (n : Nat) (hn : n = w.heap.size) (hc : c.size = 19) :
    (storeTag ⟨n, 0, none⟩ (.agg t.cells)).run Try.prog (w.alloc (.cells c 29)) = .ok () (w.alloc (.cells t.cells 29)) := by
  subst hn
  exact run_storeVar_new w _ c t.cells tagI (by rw [hc]; rfl) t.one
theorem run_loadTag_new (w : World) (t : Tag) (n : Nat) (hn : n = w.heap.size) :
    (loadTag ⟨n, 0, none⟩).run Try.prog (w.alloc (.cells t.cells 29)) = .ok (.agg t.cells) (w.alloc (.cells t.cells 29)) := by
  subst hn
  exact run_loadVar_row _ _ _ _ _ _ _ (heap_alloc_last w _) tagU rfl tagI
attribute [local go_sem ↓ high] loadTag_eq storeTag_eq
attribute [local go_sem] run_storeTag_new run_loadTag_new

def oneT (g : ByteArray) : Tag := ⟨g, 1, 3, 0, 1, ⟨false, false, false, 1, 1, 0⟩, ⟨0, 0⟩, ⟨false, false, false, 0, 0, 0⟩⟩
theorem one_any (g : ByteArray) (w : World) :
    Calls Try.prog 22 #[.string g] w fun e w' => e = .returned (.agg (oneT g).cells) ∧ Below w.heap.size w w' := by
  have hst : ∀ c : Array Value, c.size = 19 → (storeTag ⟨w.heap.size, 0, none⟩ (.agg #[.string g, .int .i64 1, .int .i64 3, .int .i64 0, .int .i64 1, .bool false, .bool false, .bool false, .int .i64 1, .int .i64 1, .int .i64 0, .int .i64 0, .int .i64 0, .bool false, .bool false, .bool false, .int .i64 0, .int .i64 0, .int .i64 0])).run Try.prog (w.alloc (.cells c 29)) = .ok () (w.alloc (.cells (oneT g).cells 29)) := fun c hc => run_storeTag_new w c (oneT g) _ rfl hc
  go_enter Try.func22, Try.ntmps22
  go_wp2_with fail
  refine bodyPost_ret (v := .agg (oneT g).cells) ?_ ?_ ?_
  · exact results_cell_row rfl _ _ _ _ _ _ _ rfl (heap_alloc_last w _) tagU rfl tagI
  · rfl
  · exact ⟨rfl, by (repeat (first | (with_reducible assumption) | (with_reducible exact Below.refl _ _) | ((with_reducible refine Below.setCell ?_ ?_ _); rotate_left; · (first | omega | (simp; done) | (simp; omega) | (simp at *; omega))) | ((with_reducible refine Below.alloc ?_ ?_ _); rotate_left; · (first | omega | (simp; done) | (simp; omega) | (simp at *; omega))) | (with_reducible refine Below.drew ?_) | (with_reducible refine below_drewN ?_ _) | ((refine Below.trans ?_ (Below.mono (by with_reducible assumption) ?_)); rotate_left; · (first | omega | (simp; done) | (simp; omega) | (simp at *; omega)))))⟩
end Go.Proofs.Ythnhholpkomdhaa
