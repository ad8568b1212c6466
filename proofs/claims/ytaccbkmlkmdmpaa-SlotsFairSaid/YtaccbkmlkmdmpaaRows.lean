/-
  No cell of these rows narrows 'for every input' (looked for: loops, veiled, ifaces, maps, wideKeys, modest, calm, conditions, laid).
  DERIVED. THE GIVEN ROWS OF THIS SEAT. 6 by the template 'for every input the law returns true; each argument reads behind the call as it read before'; 0 by the template 'total and deterministic' (their statements: YtaccbkmlkmdmpaaTotals.lean).
  GIVEN WITH THE SEED: the statements are not yours to turn. If you find one false, say at which input.
  Laid BY PROGRAM, IN A SANDBOX (cutbox-rows.mjs): the forced cells as the released guide's own fill.sh prints them over the translation 3ed69c1285986cab… (all of the seat's roots in one cut). By AI agents, Wed Nov 11 2026. No macro, syntax, notation, axiom, sorry.
-/
import Derived.Test.YtaccbkmlkmdmpaaChecked
import GoSem.Claim
import GoSem.ClaimJoined
import GoSem.ClaimMapViews
import Derived.JoinedTies
import Derived.KernelRfl
namespace Go.Proofs.Ytaccbkmlkmdmpaa
/- THE CELL 'sum', in the pinned program and in every row, IS THE sha256 OF THE DUMP (.gsa) THAT YtaccbkmlkmdmpaaProg.lean LOADS. Nothing in Lean hashes anything: it is a label: what it is worth is what the hold of that sum in a sandbox is worth. -/
noncomputable def Try.pinned : Pinned := { name := "ytaccbkmlkmdmpaa", sum := "3ed69c1285986cab93c94ddc198310daa141192753c18915ece7f4c2b9098088", checked := Try.checked }
namespace Rows
def none {H : Type} : Left H := { results := [], args := [] }

/-- 'outstationlaw17.SlotsDue': WHATEVER THE INPUT: true; the input reads as it did. -/
def slotsDueSpec : ChangeSpec := { name := "slotsDue", fn := fun _ => fun
  | [d1, d2] => { results := [.lit (.bool true)], args := [d1, d2] }
  | _ => none }
def slotsDueRow : OpenClaim := { program := "ytaccbkmlkmdmpaa", sum := "3ed69c1285986cab93c94ddc198310daa141192753c18915ece7f4c2b9098088", func := "outstation/outstationlaw17.SlotsDue", spec := "slotsDue", apart := false }
def SlotsDueSaid : Prop := slotsDueRow.holds Try.pinned (OpenSpec.ofChange slotsDueSpec)

/-- ITS FALSE NEIGHBOUR: 'it returns false'. Refute it at one input. -/
def slotsDueWrong : ChangeSpec := { name := "slotsDue", fn := fun _ => fun
  | [d1, d2] => { results := [.lit (.bool false)], args := [d1, d2] }
  | _ => none }
def SlotsDueWrongFalsely : Prop := slotsDueRow.holds Try.pinned (OpenSpec.ofChange slotsDueWrong)

/-- 'outstationlaw17.SlotsDone': WHATEVER THE INPUT: true; the input reads as it did. -/
def slotsDoneSpec : ChangeSpec := { name := "slotsDone", fn := fun _ => fun
  | [d1, d2] => { results := [.lit (.bool true)], args := [d1, d2] }
  | _ => none }
def slotsDoneRow : OpenClaim := { program := "ytaccbkmlkmdmpaa", sum := "3ed69c1285986cab93c94ddc198310daa141192753c18915ece7f4c2b9098088", func := "outstation/outstationlaw17.SlotsDone", spec := "slotsDone", apart := false }
def SlotsDoneSaid : Prop := slotsDoneRow.holds Try.pinned (OpenSpec.ofChange slotsDoneSpec)

/-- ITS FALSE NEIGHBOUR: 'it returns false'. Refute it at one input. -/
def slotsDoneWrong : ChangeSpec := { name := "slotsDone", fn := fun _ => fun
  | [d1, d2] => { results := [.lit (.bool false)], args := [d1, d2] }
  | _ => none }
def SlotsDoneWrongFalsely : Prop := slotsDoneRow.holds Try.pinned (OpenSpec.ofChange slotsDoneWrong)

/-- 'outstationlaw17.SlotsOn': WHATEVER THE INPUT: true; the input reads as it did. -/
def slotsOnSpec : ChangeSpec := { name := "slotsOn", fn := fun _ => fun
  | [d1, d2] => { results := [.lit (.bool true)], args := [d1, d2] }
  | _ => none }
def slotsOnRow : OpenClaim := { program := "ytaccbkmlkmdmpaa", sum := "3ed69c1285986cab93c94ddc198310daa141192753c18915ece7f4c2b9098088", func := "outstation/outstationlaw17.SlotsOn", spec := "slotsOn", apart := false }
def SlotsOnSaid : Prop := slotsOnRow.holds Try.pinned (OpenSpec.ofChange slotsOnSpec)

/-- ITS FALSE NEIGHBOUR: 'it returns false'. Refute it at one input. -/
def slotsOnWrong : ChangeSpec := { name := "slotsOn", fn := fun _ => fun
  | [d1, d2] => { results := [.lit (.bool false)], args := [d1, d2] }
  | _ => none }
def SlotsOnWrongFalsely : Prop := slotsOnRow.holds Try.pinned (OpenSpec.ofChange slotsOnWrong)

/-- 'outstationlaw17.SlotsBack': WHATEVER THE INPUT: true; the input reads as it did. -/
def slotsBackSpec : ChangeSpec := { name := "slotsBack", fn := fun _ => fun
  | [d1, d2] => { results := [.lit (.bool true)], args := [d1, d2] }
  | _ => none }
def slotsBackRow : OpenClaim := { program := "ytaccbkmlkmdmpaa", sum := "3ed69c1285986cab93c94ddc198310daa141192753c18915ece7f4c2b9098088", func := "outstation/outstationlaw17.SlotsBack", spec := "slotsBack", apart := false }
def SlotsBackSaid : Prop := slotsBackRow.holds Try.pinned (OpenSpec.ofChange slotsBackSpec)

/-- ITS FALSE NEIGHBOUR: 'it returns false'. Refute it at one input. -/
def slotsBackWrong : ChangeSpec := { name := "slotsBack", fn := fun _ => fun
  | [d1, d2] => { results := [.lit (.bool false)], args := [d1, d2] }
  | _ => none }
def SlotsBackWrongFalsely : Prop := slotsBackRow.holds Try.pinned (OpenSpec.ofChange slotsBackWrong)

/-- 'outstationlaw17.SlotsFair': WHATEVER THE INPUT: true; the input reads as it did. -/
def slotsFairSpec : ChangeSpec := { name := "slotsFair", fn := fun _ => fun
  | [d1, d2] => { results := [.lit (.bool true)], args := [d1, d2] }
  | _ => none }
def slotsFairRow : OpenClaim := { program := "ytaccbkmlkmdmpaa", sum := "3ed69c1285986cab93c94ddc198310daa141192753c18915ece7f4c2b9098088", func := "outstation/outstationlaw17.SlotsFair", spec := "slotsFair", apart := false }
def SlotsFairSaid : Prop := slotsFairRow.holds Try.pinned (OpenSpec.ofChange slotsFairSpec)

/-- ITS FALSE NEIGHBOUR: 'it returns false'. Refute it at one input. -/
def slotsFairWrong : ChangeSpec := { name := "slotsFair", fn := fun _ => fun
  | [d1, d2] => { results := [.lit (.bool false)], args := [d1, d2] }
  | _ => none }
def SlotsFairWrongFalsely : Prop := slotsFairRow.holds Try.pinned (OpenSpec.ofChange slotsFairWrong)

/-- 'outstationlaw17.SlotsKnown': WHATEVER THE INPUT: true; the input reads as it did. -/
def slotsKnownSpec : ChangeSpec := { name := "slotsKnown", fn := fun _ => fun
  | [] => { results := [.lit (.bool true)], args := [] }
  | _ => none }
def slotsKnownRow : OpenClaim := { program := "ytaccbkmlkmdmpaa", sum := "3ed69c1285986cab93c94ddc198310daa141192753c18915ece7f4c2b9098088", func := "outstation/outstationlaw17.SlotsKnown", spec := "slotsKnown", apart := false }
def SlotsKnownSaid : Prop := slotsKnownRow.holds Try.pinned (OpenSpec.ofChange slotsKnownSpec)

/-- ITS FALSE NEIGHBOUR: 'it returns false'. Refute it at one input. -/
def slotsKnownWrong : ChangeSpec := { name := "slotsKnown", fn := fun _ => fun
  | [] => { results := [.lit (.bool false)], args := [] }
  | _ => none }
def SlotsKnownWrongFalsely : Prop := slotsKnownRow.holds Try.pinned (OpenSpec.ofChange slotsKnownWrong)

/- THE SECOND FORM. 'bulk': how many values and letters a reading holds, each counted each time it is reached (what is shared counts as often as it is met; a slice's spare places count too). A statement '..UptoSaid' is the law's where the arguments, and the package variables that the reading takes, are together of bulk at most 1048576: NARROWER than '..Said'. Prove '..Said' where nothing that the law and all that it calls make is longer than what came in: it says more and counts as full. Else prove '..UptoSaid'. A law counts once. -/
mutual
def uptoBulk {H : Type} : DataW H → Nat
  | .lit (.string bytes) => bytes.length + 1
  | .lit _ => 1
  | .nil => 1
  | .ptr d => uptoBulk d + 1
  | .slice elems spare => uptoBulkAll elems + uptoBulkAll spare + 1
  | .agg parts => uptoBulkAll parts + 1
  | .iface _ d => uptoBulk d + 1
  | .map entries => uptoBulkEntries entries + 1
  | .held _ => 1
def uptoBulkAll {H : Type} : List (DataW H) → Nat
  | [] => 0
  | d :: r => uptoBulk d + uptoBulkAll r
def uptoBulkEntries {H : Type} : List (Lit × DataW H) → Nat
  | [] => 0
  | x :: r => uptoBulkEntry x + uptoBulkEntries r
def uptoBulkEntry {H : Type} : Lit × DataW H → Nat
  | (.string bytes, d) => bytes.length + uptoBulk d + 1
  | (_, d) => uptoBulk d + 1
 end
def uptoSmall : (H : Type) → List (DataW H) → Bool := fun _ ds => decide (uptoBulkAll ds ≤ 1048576)
def OpenSpec.upto (s : _root_.Go.ChangeSpec) : _root_.Go.OpenSpec := { _root_.Go.OpenSpec.ofChange s with cond := some uptoSmall }

/-- 'outstationlaw17.SlotsDue', WHERE WHAT IT READS IS OF BULK AT MOST 1048576: true; the input reads as it did. -/
def slotsDueUptoRow : OpenClaim := { program := "ytaccbkmlkmdmpaa", sum := "3ed69c1285986cab93c94ddc198310daa141192753c18915ece7f4c2b9098088", func := "outstation/outstationlaw17.SlotsDue", spec := "slotsDue", apart := false, narrowed := true }
def SlotsDueUptoSaid : Prop := slotsDueUptoRow.holds Try.pinned (OpenSpec.upto slotsDueSpec)

/-- 'outstationlaw17.SlotsDone', WHERE WHAT IT READS IS OF BULK AT MOST 1048576: true; the input reads as it did. -/
def slotsDoneUptoRow : OpenClaim := { program := "ytaccbkmlkmdmpaa", sum := "3ed69c1285986cab93c94ddc198310daa141192753c18915ece7f4c2b9098088", func := "outstation/outstationlaw17.SlotsDone", spec := "slotsDone", apart := false, narrowed := true }
def SlotsDoneUptoSaid : Prop := slotsDoneUptoRow.holds Try.pinned (OpenSpec.upto slotsDoneSpec)

/-- 'outstationlaw17.SlotsOn', WHERE WHAT IT READS IS OF BULK AT MOST 1048576: true; the input reads as it did. -/
def slotsOnUptoRow : OpenClaim := { program := "ytaccbkmlkmdmpaa", sum := "3ed69c1285986cab93c94ddc198310daa141192753c18915ece7f4c2b9098088", func := "outstation/outstationlaw17.SlotsOn", spec := "slotsOn", apart := false, narrowed := true }
def SlotsOnUptoSaid : Prop := slotsOnUptoRow.holds Try.pinned (OpenSpec.upto slotsOnSpec)

/-- 'outstationlaw17.SlotsBack', WHERE WHAT IT READS IS OF BULK AT MOST 1048576: true; the input reads as it did. -/
def slotsBackUptoRow : OpenClaim := { program := "ytaccbkmlkmdmpaa", sum := "3ed69c1285986cab93c94ddc198310daa141192753c18915ece7f4c2b9098088", func := "outstation/outstationlaw17.SlotsBack", spec := "slotsBack", apart := false, narrowed := true }
def SlotsBackUptoSaid : Prop := slotsBackUptoRow.holds Try.pinned (OpenSpec.upto slotsBackSpec)

/-- 'outstationlaw17.SlotsFair', WHERE WHAT IT READS IS OF BULK AT MOST 1048576: true; the input reads as it did. -/
def slotsFairUptoRow : OpenClaim := { program := "ytaccbkmlkmdmpaa", sum := "3ed69c1285986cab93c94ddc198310daa141192753c18915ece7f4c2b9098088", func := "outstation/outstationlaw17.SlotsFair", spec := "slotsFair", apart := false, narrowed := true }
def SlotsFairUptoSaid : Prop := slotsFairUptoRow.holds Try.pinned (OpenSpec.upto slotsFairSpec)

/-- 'outstationlaw17.SlotsKnown', WHERE WHAT IT READS IS OF BULK AT MOST 1048576: true; the input reads as it did. -/
def slotsKnownUptoRow : OpenClaim := { program := "ytaccbkmlkmdmpaa", sum := "3ed69c1285986cab93c94ddc198310daa141192753c18915ece7f4c2b9098088", func := "outstation/outstationlaw17.SlotsKnown", spec := "slotsKnown", apart := false, narrowed := true }
def SlotsKnownUptoSaid : Prop := slotsKnownUptoRow.holds Try.pinned (OpenSpec.upto slotsKnownSpec)

end Rows
end Go.Proofs.Ytaccbkmlkmdmpaa
