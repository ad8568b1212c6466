/-
  No cell of these rows narrows 'for every input' (looked for: loops, veiled, ifaces, maps, wideKeys, modest, calm, conditions, laid).
  DERIVED. THE GIVEN ROWS OF THIS SEAT. 4 by the template 'for every input the law returns true; each argument reads behind the call as it read before'; 0 by the template 'total and deterministic' (their statements: YtihgcdggffidlaaTotals.lean).
  GIVEN WITH THE SEED: the statements are not yours to turn. If you find one false, say at which input.
  Laid BY PROGRAM, IN A SANDBOX (cutbox-rows.mjs): the forced cells as the released guide's own fill.sh prints them over the translation de09da644f22c031… (all of the seat's roots in one cut). By AI agents, Wed Nov 11 2026. No macro, syntax, notation, axiom, sorry.
-/
import Derived.Test.YtihgcdggffidlaaChecked
import GoSem.Claim
import GoSem.ClaimJoined
import GoSem.ClaimMapViews
import Derived.JoinedTies
import Derived.KernelRfl
namespace Go.Proofs.Ytihgcdggffidlaa
/- THE CELL 'sum', in the pinned program and in every row, IS THE sha256 OF THE DUMP (.gsa) THAT YtihgcdggffidlaaProg.lean LOADS. Nothing in Lean hashes anything: it is a label: what it is worth is what the hold of that sum in a sandbox is worth. -/
noncomputable def Try.pinned : Pinned := { name := "ytihgcdggffidlaa", sum := "de09da644f22c031f8492ac0681d0414df77cefe1fc3af35959474ae5e319aef", checked := Try.checked }
namespace Rows
def none {H : Type} : Left H := { results := [], args := [] }

/-- 'outstationlaw22.SenderRuns': WHATEVER THE INPUT: true; the input reads as it did. -/
def senderRunsSpec : ChangeSpec := { name := "senderRuns", fn := fun _ => fun
  | [d1, d2, d3, d4, d5] => { results := [.lit (.bool true)], args := [d1, d2, d3, d4, d5] }
  | _ => none }
def senderRunsRow : OpenClaim := { program := "ytihgcdggffidlaa", sum := "de09da644f22c031f8492ac0681d0414df77cefe1fc3af35959474ae5e319aef", func := "outstation/outstationlaw22.SenderRuns", spec := "senderRuns", apart := false }
def SenderRunsSaid : Prop := senderRunsRow.holds Try.pinned (OpenSpec.ofChange senderRunsSpec)

/-- ITS FALSE NEIGHBOUR: 'it returns false'. Refute it at one input. -/
def senderRunsWrong : ChangeSpec := { name := "senderRuns", fn := fun _ => fun
  | [d1, d2, d3, d4, d5] => { results := [.lit (.bool false)], args := [d1, d2, d3, d4, d5] }
  | _ => none }
def SenderRunsWrongFalsely : Prop := senderRunsRow.holds Try.pinned (OpenSpec.ofChange senderRunsWrong)

/-- 'outstationlaw22.SenderWindow': WHATEVER THE INPUT: true; the input reads as it did. -/
def senderWindowSpec : ChangeSpec := { name := "senderWindow", fn := fun _ => fun
  | [d1, d2, d3, d4, d5] => { results := [.lit (.bool true)], args := [d1, d2, d3, d4, d5] }
  | _ => none }
def senderWindowRow : OpenClaim := { program := "ytihgcdggffidlaa", sum := "de09da644f22c031f8492ac0681d0414df77cefe1fc3af35959474ae5e319aef", func := "outstation/outstationlaw22.SenderWindow", spec := "senderWindow", apart := false }
def SenderWindowSaid : Prop := senderWindowRow.holds Try.pinned (OpenSpec.ofChange senderWindowSpec)

/-- ITS FALSE NEIGHBOUR: 'it returns false'. Refute it at one input. -/
def senderWindowWrong : ChangeSpec := { name := "senderWindow", fn := fun _ => fun
  | [d1, d2, d3, d4, d5] => { results := [.lit (.bool false)], args := [d1, d2, d3, d4, d5] }
  | _ => none }
def SenderWindowWrongFalsely : Prop := senderWindowRow.holds Try.pinned (OpenSpec.ofChange senderWindowWrong)

/-- 'outstationlaw22.SenderComes': WHATEVER THE INPUT: true; the input reads as it did. -/
def senderComesSpec : ChangeSpec := { name := "senderComes", fn := fun _ => fun
  | [d1, d2, d3, d4, d5, d6] => { results := [.lit (.bool true)], args := [d1, d2, d3, d4, d5, d6] }
  | _ => none }
def senderComesRow : OpenClaim := { program := "ytihgcdggffidlaa", sum := "de09da644f22c031f8492ac0681d0414df77cefe1fc3af35959474ae5e319aef", func := "outstation/outstationlaw22.SenderComes", spec := "senderComes", apart := false }
def SenderComesSaid : Prop := senderComesRow.holds Try.pinned (OpenSpec.ofChange senderComesSpec)

/-- ITS FALSE NEIGHBOUR: 'it returns false'. Refute it at one input. -/
def senderComesWrong : ChangeSpec := { name := "senderComes", fn := fun _ => fun
  | [d1, d2, d3, d4, d5, d6] => { results := [.lit (.bool false)], args := [d1, d2, d3, d4, d5, d6] }
  | _ => none }
def SenderComesWrongFalsely : Prop := senderComesRow.holds Try.pinned (OpenSpec.ofChange senderComesWrong)

/-- 'outstationlaw22.SenderKnown': WHATEVER THE INPUT: true; the input reads as it did. -/
def senderKnownSpec : ChangeSpec := { name := "senderKnown", fn := fun _ => fun
  | [] => { results := [.lit (.bool true)], args := [] }
  | _ => none }
def senderKnownRow : OpenClaim := { program := "ytihgcdggffidlaa", sum := "de09da644f22c031f8492ac0681d0414df77cefe1fc3af35959474ae5e319aef", func := "outstation/outstationlaw22.SenderKnown", spec := "senderKnown", apart := false }
def SenderKnownSaid : Prop := senderKnownRow.holds Try.pinned (OpenSpec.ofChange senderKnownSpec)

/-- ITS FALSE NEIGHBOUR: 'it returns false'. Refute it at one input. -/
def senderKnownWrong : ChangeSpec := { name := "senderKnown", fn := fun _ => fun
  | [] => { results := [.lit (.bool false)], args := [] }
  | _ => none }
def SenderKnownWrongFalsely : Prop := senderKnownRow.holds Try.pinned (OpenSpec.ofChange senderKnownWrong)

/- THE SECOND FORM. 'bulk': how many values and letters a reading holds, each counted each time it is reached (what is shared counts as often as it is met; a slice's spare places count too). A statement '..UptoSaid' is the law's where the arguments, and the package variables that the reading takes, are together of bulk at most 1048576: NARROWER than '..Said'. Prove '..Said' where nothing that the law and all that it calls make is longer than what came in: it says more and counts as full. Else prove '..UptoSaid'. A law counts once. -/
mutual
def uptoBulk {H : Type} : DataW H → Nat
  | .lit (.string bytes) => bytes.length + 1
  | .lit _ => 1
  | .nil => 1
  | .ptr d => uptoBulk d + 1
  | .slice elems spare => uptoBulkAll elems + uptoBulkAll spare + 1
  | .agg parts => uptoBulkAll parts + 1
  | .iface _ d => uptoBulk d + 1
  | .map entries => uptoBulkEntries entries + 1
  | .held _ => 1
def uptoBulkAll {H : Type} : List (DataW H) → Nat
  | [] => 0
  | d :: r => uptoBulk d + uptoBulkAll r
def uptoBulkEntries {H : Type} : List (Lit × DataW H) → Nat
  | [] => 0
  | x :: r => uptoBulkEntry x + uptoBulkEntries r
def uptoBulkEntry {H : Type} : Lit × DataW H → Nat
  | (.string bytes, d) => bytes.length + uptoBulk d + 1
  | (_, d) => uptoBulk d + 1
 end
def uptoSmall : (H : Type) → List (DataW H) → Bool := fun _ ds => decide (uptoBulkAll ds ≤ 1048576)
def OpenSpec.upto (s : _root_.Go.ChangeSpec) : _root_.Go.OpenSpec := { _root_.Go.OpenSpec.ofChange s with cond := some uptoSmall }

/-- 'outstationlaw22.SenderRuns', WHERE WHAT IT READS IS OF BULK AT MOST 1048576: true; the input reads as it did. -/
def senderRunsUptoRow : OpenClaim := { program := "ytihgcdggffidlaa", sum := "de09da644f22c031f8492ac0681d0414df77cefe1fc3af35959474ae5e319aef", func := "outstation/outstationlaw22.SenderRuns", spec := "senderRuns", apart := false, narrowed := true }
def SenderRunsUptoSaid : Prop := senderRunsUptoRow.holds Try.pinned (OpenSpec.upto senderRunsSpec)

/-- 'outstationlaw22.SenderWindow', WHERE WHAT IT READS IS OF BULK AT MOST 1048576: true; the input reads as it did. -/
def senderWindowUptoRow : OpenClaim := { program := "ytihgcdggffidlaa", sum := "de09da644f22c031f8492ac0681d0414df77cefe1fc3af35959474ae5e319aef", func := "outstation/outstationlaw22.SenderWindow", spec := "senderWindow", apart := false, narrowed := true }
def SenderWindowUptoSaid : Prop := senderWindowUptoRow.holds Try.pinned (OpenSpec.upto senderWindowSpec)

/-- 'outstationlaw22.SenderComes', WHERE WHAT IT READS IS OF BULK AT MOST 1048576: true; the input reads as it did. -/
def senderComesUptoRow : OpenClaim := { program := "ytihgcdggffidlaa", sum := "de09da644f22c031f8492ac0681d0414df77cefe1fc3af35959474ae5e319aef", func := "outstation/outstationlaw22.SenderComes", spec := "senderComes", apart := false, narrowed := true }
def SenderComesUptoSaid : Prop := senderComesUptoRow.holds Try.pinned (OpenSpec.upto senderComesSpec)

/-- 'outstationlaw22.SenderKnown', WHERE WHAT IT READS IS OF BULK AT MOST 1048576: true; the input reads as it did. -/
def senderKnownUptoRow : OpenClaim := { program := "ytihgcdggffidlaa", sum := "de09da644f22c031f8492ac0681d0414df77cefe1fc3af35959474ae5e319aef", func := "outstation/outstationlaw22.SenderKnown", spec := "senderKnown", apart := false, narrowed := true }
def SenderKnownUptoSaid : Prop := senderKnownUptoRow.holds Try.pinned (OpenSpec.upto senderKnownSpec)

end Rows
end Go.Proofs.Ytihgcdggffidlaa
