/-
  No cell of these rows narrows 'for every input' (looked for: loops, veiled, ifaces, maps, wideKeys, modest, calm, conditions, laid).
  DERIVED. THE GIVEN ROWS OF THIS SEAT. 4 by the template 'for every input the law returns true; each argument reads behind the call as it read before'; 0 by the template 'total and deterministic' (their statements: YtgikaglmeeeplaaTotals.lean).
  GIVEN WITH THE SEED: the statements are not yours to turn. If you find one false, say at which input.
  Laid BY PROGRAM, IN A SANDBOX (cutbox-rows.mjs): the forced cells as the released guide's own fill.sh prints them over the translation 64003eb1f716871d… (all of the seat's roots in one cut). By AI agents, Wed Nov 11 2026. No macro, syntax, notation, axiom, sorry.
-/
import Derived.Test.YtgikaglmeeeplaaChecked
import GoSem.Claim
import GoSem.ClaimJoined
import GoSem.ClaimMapViews
import Derived.JoinedTies
import Derived.KernelRfl
namespace Go.Proofs.Ytgikaglmeeeplaa
/- THE CELL 'sum', in the pinned program and in every row, IS THE sha256 OF THE DUMP (.gsa) THAT YtgikaglmeeeplaaProg.lean LOADS. Nothing in Lean hashes anything: it is a label: what it is worth is what the hold of that sum in a sandbox is worth. -/
noncomputable def Try.pinned : Pinned := { name := "ytgikaglmeeeplaa", sum := "64003eb1f716871d30c478a3a0080b1a46ec37df095f9f742060ae8c4924513b", checked := Try.checked }
namespace Rows
def none {H : Type} : Left H := { results := [], args := [] }

/-- 'stagepostlaw24.IntentWrites': WHATEVER THE INPUT: true; the input reads as it did. -/
def intentWritesSpec : ChangeSpec := { name := "intentWrites", fn := fun _ => fun
  | [d] => { results := [.lit (.bool true)], args := [d] }
  | _ => none }
def intentWritesRow : OpenClaim := { program := "ytgikaglmeeeplaa", sum := "64003eb1f716871d30c478a3a0080b1a46ec37df095f9f742060ae8c4924513b", func := "stagepost/stagepostlaw24.IntentWrites", spec := "intentWrites", apart := false }
def IntentWritesSaid : Prop := intentWritesRow.holds Try.pinned (OpenSpec.ofChange intentWritesSpec)

/-- ITS FALSE NEIGHBOUR: 'it returns false'. Refute it at one input. -/
def intentWritesWrong : ChangeSpec := { name := "intentWrites", fn := fun _ => fun
  | [d] => { results := [.lit (.bool false)], args := [d] }
  | _ => none }
def IntentWritesWrongFalsely : Prop := intentWritesRow.holds Try.pinned (OpenSpec.ofChange intentWritesWrong)

/-- 'stagepostlaw24.IntentNames': WHATEVER THE INPUT: true; the input reads as it did. -/
def intentNamesSpec : ChangeSpec := { name := "intentNames", fn := fun _ => fun
  | [] => { results := [.lit (.bool true)], args := [] }
  | _ => none }
def intentNamesRow : OpenClaim := { program := "ytgikaglmeeeplaa", sum := "64003eb1f716871d30c478a3a0080b1a46ec37df095f9f742060ae8c4924513b", func := "stagepost/stagepostlaw24.IntentNames", spec := "intentNames", apart := false }
def IntentNamesSaid : Prop := intentNamesRow.holds Try.pinned (OpenSpec.ofChange intentNamesSpec)

/-- ITS FALSE NEIGHBOUR: 'it returns false'. Refute it at one input. -/
def intentNamesWrong : ChangeSpec := { name := "intentNames", fn := fun _ => fun
  | [] => { results := [.lit (.bool false)], args := [] }
  | _ => none }
def IntentNamesWrongFalsely : Prop := intentNamesRow.holds Try.pinned (OpenSpec.ofChange intentNamesWrong)

/-- 'stagepostlaw24.IntentTime': WHATEVER THE INPUT: true; the input reads as it did. -/
def intentTimeSpec : ChangeSpec := { name := "intentTime", fn := fun _ => fun
  | [d] => { results := [.lit (.bool true)], args := [d] }
  | _ => none }
def intentTimeRow : OpenClaim := { program := "ytgikaglmeeeplaa", sum := "64003eb1f716871d30c478a3a0080b1a46ec37df095f9f742060ae8c4924513b", func := "stagepost/stagepostlaw24.IntentTime", spec := "intentTime", apart := false }
def IntentTimeSaid : Prop := intentTimeRow.holds Try.pinned (OpenSpec.ofChange intentTimeSpec)

/-- ITS FALSE NEIGHBOUR: 'it returns false'. Refute it at one input. -/
def intentTimeWrong : ChangeSpec := { name := "intentTime", fn := fun _ => fun
  | [d] => { results := [.lit (.bool false)], args := [d] }
  | _ => none }
def IntentTimeWrongFalsely : Prop := intentTimeRow.holds Try.pinned (OpenSpec.ofChange intentTimeWrong)

/-- 'stagepostlaw24.IntentCalls': WHATEVER THE INPUT: true; the input reads as it did. -/
def intentCallsSpec : ChangeSpec := { name := "intentCalls", fn := fun _ => fun
  | [d] => { results := [.lit (.bool true)], args := [d] }
  | _ => none }
def intentCallsRow : OpenClaim := { program := "ytgikaglmeeeplaa", sum := "64003eb1f716871d30c478a3a0080b1a46ec37df095f9f742060ae8c4924513b", func := "stagepost/stagepostlaw24.IntentCalls", spec := "intentCalls", apart := false }
def IntentCallsSaid : Prop := intentCallsRow.holds Try.pinned (OpenSpec.ofChange intentCallsSpec)

/-- ITS FALSE NEIGHBOUR: 'it returns false'. Refute it at one input. -/
def intentCallsWrong : ChangeSpec := { name := "intentCalls", fn := fun _ => fun
  | [d] => { results := [.lit (.bool false)], args := [d] }
  | _ => none }
def IntentCallsWrongFalsely : Prop := intentCallsRow.holds Try.pinned (OpenSpec.ofChange intentCallsWrong)

/- THE SECOND FORM. 'bulk': how many values and letters a reading holds, each counted each time it is reached (what is shared counts as often as it is met; a slice's spare places count too). A statement '..UptoSaid' is the law's where the arguments, and the package variables that the reading takes, are together of bulk at most 1048576: NARROWER than '..Said'. Prove '..Said' where nothing that the law and all that it calls make is longer than what came in: it says more and counts as full. Else prove '..UptoSaid'. A law counts once. -/
mutual
def uptoBulk {H : Type} : DataW H → Nat
  | .lit (.string bytes) => bytes.length + 1
  | .lit _ => 1
  | .nil => 1
  | .ptr d => uptoBulk d + 1
  | .slice elems spare => uptoBulkAll elems + uptoBulkAll spare + 1
  | .agg parts => uptoBulkAll parts + 1
  | .iface _ d => uptoBulk d + 1
  | .map entries => uptoBulkEntries entries + 1
  | .held _ => 1
def uptoBulkAll {H : Type} : List (DataW H) → Nat
  | [] => 0
  | d :: r => uptoBulk d + uptoBulkAll r
def uptoBulkEntries {H : Type} : List (Lit × DataW H) → Nat
  | [] => 0
  | x :: r => uptoBulkEntry x + uptoBulkEntries r
def uptoBulkEntry {H : Type} : Lit × DataW H → Nat
  | (.string bytes, d) => bytes.length + uptoBulk d + 1
  | (_, d) => uptoBulk d + 1
 end
def uptoSmall : (H : Type) → List (DataW H) → Bool := fun _ ds => decide (uptoBulkAll ds ≤ 1048576)
def OpenSpec.upto (s : _root_.Go.ChangeSpec) : _root_.Go.OpenSpec := { _root_.Go.OpenSpec.ofChange s with cond := some uptoSmall }

/-- 'stagepostlaw24.IntentWrites', WHERE WHAT IT READS IS OF BULK AT MOST 1048576: true; the input reads as it did. -/
def intentWritesUptoRow : OpenClaim := { program := "ytgikaglmeeeplaa", sum := "64003eb1f716871d30c478a3a0080b1a46ec37df095f9f742060ae8c4924513b", func := "stagepost/stagepostlaw24.IntentWrites", spec := "intentWrites", apart := false, narrowed := true }
def IntentWritesUptoSaid : Prop := intentWritesUptoRow.holds Try.pinned (OpenSpec.upto intentWritesSpec)

/-- 'stagepostlaw24.IntentNames', WHERE WHAT IT READS IS OF BULK AT MOST 1048576: true; the input reads as it did. -/
def intentNamesUptoRow : OpenClaim := { program := "ytgikaglmeeeplaa", sum := "64003eb1f716871d30c478a3a0080b1a46ec37df095f9f742060ae8c4924513b", func := "stagepost/stagepostlaw24.IntentNames", spec := "intentNames", apart := false, narrowed := true }
def IntentNamesUptoSaid : Prop := intentNamesUptoRow.holds Try.pinned (OpenSpec.upto intentNamesSpec)

/-- 'stagepostlaw24.IntentTime', WHERE WHAT IT READS IS OF BULK AT MOST 1048576: true; the input reads as it did. -/
def intentTimeUptoRow : OpenClaim := { program := "ytgikaglmeeeplaa", sum := "64003eb1f716871d30c478a3a0080b1a46ec37df095f9f742060ae8c4924513b", func := "stagepost/stagepostlaw24.IntentTime", spec := "intentTime", apart := false, narrowed := true }
def IntentTimeUptoSaid : Prop := intentTimeUptoRow.holds Try.pinned (OpenSpec.upto intentTimeSpec)

/-- 'stagepostlaw24.IntentCalls', WHERE WHAT IT READS IS OF BULK AT MOST 1048576: true; the input reads as it did. -/
def intentCallsUptoRow : OpenClaim := { program := "ytgikaglmeeeplaa", sum := "64003eb1f716871d30c478a3a0080b1a46ec37df095f9f742060ae8c4924513b", func := "stagepost/stagepostlaw24.IntentCalls", spec := "intentCalls", apart := false, narrowed := true }
def IntentCallsUptoSaid : Prop := intentCallsUptoRow.holds Try.pinned (OpenSpec.upto intentCallsSpec)

end Rows
end Go.Proofs.Ytgikaglmeeeplaa
