/-
  No cell of these rows narrows 'for every input' (looked for: loops, veiled, ifaces, maps, wideKeys, modest, calm, conditions, laid).
  DERIVED. THE GIVEN ROWS OF THIS SEAT. 10 by the template 'for every input the law returns true; each argument reads behind the call as it read before'; 0 by the template 'total and deterministic' (their statements: YthijpcbblmcfiaaTotals.lean).
  GIVEN WITH THE SEED: the statements are not yours to turn. If you find one false, say at which input.
  Laid BY PROGRAM, IN A SANDBOX (cutbox-rows.mjs): the forced cells as the released guide's own fill.sh prints them over the translation b0c2f1e67b2358fc… (all of the seat's roots in one cut). By AI agents, Wed Nov 11 2026. No macro, syntax, notation, axiom, sorry.
-/
import Derived.Test.YthijpcbblmcfiaaChecked
import GoSem.Claim
import GoSem.ClaimJoined
import GoSem.ClaimMapViews
import Derived.JoinedTies
import Derived.KernelRfl
namespace Go.Proofs.Ythijpcbblmcfiaa
/- THE CELL 'sum', in the pinned program and in every row, IS THE sha256 OF THE DUMP (.gsa) THAT YthijpcbblmcfiaaProg.lean LOADS. Nothing in Lean hashes anything: it is a label: what it is worth is what the hold of that sum in a sandbox is worth. -/
noncomputable def Try.pinned : Pinned := { name := "ythijpcbblmcfiaa", sum := "b0c2f1e67b2358fc109bb68bcafe8d9b601838f0f11f74d34b3aff2e1b740786", checked := Try.checked }
namespace Rows
def none {H : Type} : Left H := { results := [], args := [] }

/-- 'stagepostlaw20.HlcCalls': WHATEVER THE INPUT: true; the input reads as it did. -/
def hlcCallsSpec : ChangeSpec := { name := "hlcCalls", fn := fun _ => fun
  | [d1, d2, d3] => { results := [.lit (.bool true)], args := [d1, d2, d3] }
  | _ => none }
def hlcCallsRow : OpenClaim := { program := "ythijpcbblmcfiaa", sum := "b0c2f1e67b2358fc109bb68bcafe8d9b601838f0f11f74d34b3aff2e1b740786", func := "stagepost/stagepostlaw20.HlcCalls", spec := "hlcCalls", apart := false }
def HlcCallsSaid : Prop := hlcCallsRow.holds Try.pinned (OpenSpec.ofChange hlcCallsSpec)

/-- ITS FALSE NEIGHBOUR: 'it returns false'. Refute it at one input. -/
def hlcCallsWrong : ChangeSpec := { name := "hlcCalls", fn := fun _ => fun
  | [d1, d2, d3] => { results := [.lit (.bool false)], args := [d1, d2, d3] }
  | _ => none }
def HlcCallsWrongFalsely : Prop := hlcCallsRow.holds Try.pinned (OpenSpec.ofChange hlcCallsWrong)

/-- 'stagepostlaw20.HlcNext': WHATEVER THE INPUT: true; the input reads as it did. -/
def hlcNextSpec : ChangeSpec := { name := "hlcNext", fn := fun _ => fun
  | [d1, d2, d3, d4, d5] => { results := [.lit (.bool true)], args := [d1, d2, d3, d4, d5] }
  | _ => none }
def hlcNextRow : OpenClaim := { program := "ythijpcbblmcfiaa", sum := "b0c2f1e67b2358fc109bb68bcafe8d9b601838f0f11f74d34b3aff2e1b740786", func := "stagepost/stagepostlaw20.HlcNext", spec := "hlcNext", apart := false }
def HlcNextSaid : Prop := hlcNextRow.holds Try.pinned (OpenSpec.ofChange hlcNextSpec)

/-- ITS FALSE NEIGHBOUR: 'it returns false'. Refute it at one input. -/
def hlcNextWrong : ChangeSpec := { name := "hlcNext", fn := fun _ => fun
  | [d1, d2, d3, d4, d5] => { results := [.lit (.bool false)], args := [d1, d2, d3, d4, d5] }
  | _ => none }
def HlcNextWrongFalsely : Prop := hlcNextRow.holds Try.pinned (OpenSpec.ofChange hlcNextWrong)

/-- 'stagepostlaw20.HlcNames': WHATEVER THE INPUT: true; the input reads as it did. -/
def hlcNamesSpec : ChangeSpec := { name := "hlcNames", fn := fun _ => fun
  | [] => { results := [.lit (.bool true)], args := [] }
  | _ => none }
def hlcNamesRow : OpenClaim := { program := "ythijpcbblmcfiaa", sum := "b0c2f1e67b2358fc109bb68bcafe8d9b601838f0f11f74d34b3aff2e1b740786", func := "stagepost/stagepostlaw20.HlcNames", spec := "hlcNames", apart := false }
def HlcNamesSaid : Prop := hlcNamesRow.holds Try.pinned (OpenSpec.ofChange hlcNamesSpec)

/-- ITS FALSE NEIGHBOUR: 'it returns false'. Refute it at one input. -/
def hlcNamesWrong : ChangeSpec := { name := "hlcNames", fn := fun _ => fun
  | [] => { results := [.lit (.bool false)], args := [] }
  | _ => none }
def HlcNamesWrongFalsely : Prop := hlcNamesRow.holds Try.pinned (OpenSpec.ofChange hlcNamesWrong)

/-- 'stagepostlaw20.HlcScript': WHATEVER THE INPUT: true; the input reads as it did. -/
def hlcScriptSpec : ChangeSpec := { name := "hlcScript", fn := fun _ => fun
  | [d1, d2, d3] => { results := [.lit (.bool true)], args := [d1, d2, d3] }
  | _ => none }
def hlcScriptRow : OpenClaim := { program := "ythijpcbblmcfiaa", sum := "b0c2f1e67b2358fc109bb68bcafe8d9b601838f0f11f74d34b3aff2e1b740786", func := "stagepost/stagepostlaw20.HlcScript", spec := "hlcScript", apart := false }
def HlcScriptSaid : Prop := hlcScriptRow.holds Try.pinned (OpenSpec.ofChange hlcScriptSpec)

/-- ITS FALSE NEIGHBOUR: 'it returns false'. Refute it at one input. -/
def hlcScriptWrong : ChangeSpec := { name := "hlcScript", fn := fun _ => fun
  | [d1, d2, d3] => { results := [.lit (.bool false)], args := [d1, d2, d3] }
  | _ => none }
def HlcScriptWrongFalsely : Prop := hlcScriptRow.holds Try.pinned (OpenSpec.ofChange hlcScriptWrong)

/-- 'stagepostlaw20.HlcNil': WHATEVER THE INPUT: true; the input reads as it did. -/
def hlcNilSpec : ChangeSpec := { name := "hlcNil", fn := fun _ => fun
  | [d] => { results := [.lit (.bool true)], args := [d] }
  | _ => none }
def hlcNilRow : OpenClaim := { program := "ythijpcbblmcfiaa", sum := "b0c2f1e67b2358fc109bb68bcafe8d9b601838f0f11f74d34b3aff2e1b740786", func := "stagepost/stagepostlaw20.HlcNil", spec := "hlcNil", apart := false }
def HlcNilSaid : Prop := hlcNilRow.holds Try.pinned (OpenSpec.ofChange hlcNilSpec)

/-- ITS FALSE NEIGHBOUR: 'it returns false'. Refute it at one input. -/
def hlcNilWrong : ChangeSpec := { name := "hlcNil", fn := fun _ => fun
  | [d] => { results := [.lit (.bool false)], args := [d] }
  | _ => none }
def HlcNilWrongFalsely : Prop := hlcNilRow.holds Try.pinned (OpenSpec.ofChange hlcNilWrong)

/-- 'stagepostlaw20.HlcRises': WHATEVER THE INPUT: true; the input reads as it did. -/
def hlcRisesSpec : ChangeSpec := { name := "hlcRises", fn := fun _ => fun
  | [d1, d2, d3] => { results := [.lit (.bool true)], args := [d1, d2, d3] }
  | _ => none }
def hlcRisesRow : OpenClaim := { program := "ythijpcbblmcfiaa", sum := "b0c2f1e67b2358fc109bb68bcafe8d9b601838f0f11f74d34b3aff2e1b740786", func := "stagepost/stagepostlaw20.HlcRises", spec := "hlcRises", apart := false }
def HlcRisesSaid : Prop := hlcRisesRow.holds Try.pinned (OpenSpec.ofChange hlcRisesSpec)

/-- ITS FALSE NEIGHBOUR: 'it returns false'. Refute it at one input. -/
def hlcRisesWrong : ChangeSpec := { name := "hlcRises", fn := fun _ => fun
  | [d1, d2, d3] => { results := [.lit (.bool false)], args := [d1, d2, d3] }
  | _ => none }
def HlcRisesWrongFalsely : Prop := hlcRisesRow.holds Try.pinned (OpenSpec.ofChange hlcRisesWrong)

/-- 'stagepostlaw27.PushNames': WHATEVER THE INPUT: true; the input reads as it did. -/
def pushNamesSpec : ChangeSpec := { name := "pushNames", fn := fun _ => fun
  | [] => { results := [.lit (.bool true)], args := [] }
  | _ => none }
def pushNamesRow : OpenClaim := { program := "ythijpcbblmcfiaa", sum := "b0c2f1e67b2358fc109bb68bcafe8d9b601838f0f11f74d34b3aff2e1b740786", func := "stagepost/stagepostlaw27.PushNames", spec := "pushNames", apart := false }
def PushNamesSaid : Prop := pushNamesRow.holds Try.pinned (OpenSpec.ofChange pushNamesSpec)

/-- ITS FALSE NEIGHBOUR: 'it returns false'. Refute it at one input. -/
def pushNamesWrong : ChangeSpec := { name := "pushNames", fn := fun _ => fun
  | [] => { results := [.lit (.bool false)], args := [] }
  | _ => none }
def PushNamesWrongFalsely : Prop := pushNamesRow.holds Try.pinned (OpenSpec.ofChange pushNamesWrong)

/-- 'stagepostlaw27.PushCalls': WHATEVER THE INPUT: true; the input reads as it did. -/
def pushCallsSpec : ChangeSpec := { name := "pushCalls", fn := fun _ => fun
  | [d1, d2, d3, d4, d5, d6, d7] => { results := [.lit (.bool true)], args := [d1, d2, d3, d4, d5, d6, d7] }
  | _ => none }
def pushCallsRow : OpenClaim := { program := "ythijpcbblmcfiaa", sum := "b0c2f1e67b2358fc109bb68bcafe8d9b601838f0f11f74d34b3aff2e1b740786", func := "stagepost/stagepostlaw27.PushCalls", spec := "pushCalls", apart := false }
def PushCallsSaid : Prop := pushCallsRow.holds Try.pinned (OpenSpec.ofChange pushCallsSpec)

/-- ITS FALSE NEIGHBOUR: 'it returns false'. Refute it at one input. -/
def pushCallsWrong : ChangeSpec := { name := "pushCalls", fn := fun _ => fun
  | [d1, d2, d3, d4, d5, d6, d7] => { results := [.lit (.bool false)], args := [d1, d2, d3, d4, d5, d6, d7] }
  | _ => none }
def PushCallsWrongFalsely : Prop := pushCallsRow.holds Try.pinned (OpenSpec.ofChange pushCallsWrong)

/-- 'stagepostlaw27.PushRing': WHATEVER THE INPUT: true; the input reads as it did. -/
def pushRingSpec : ChangeSpec := { name := "pushRing", fn := fun _ => fun
  | [d1, d2, d3, d4] => { results := [.lit (.bool true)], args := [d1, d2, d3, d4] }
  | _ => none }
def pushRingRow : OpenClaim := { program := "ythijpcbblmcfiaa", sum := "b0c2f1e67b2358fc109bb68bcafe8d9b601838f0f11f74d34b3aff2e1b740786", func := "stagepost/stagepostlaw27.PushRing", spec := "pushRing", apart := false }
def PushRingSaid : Prop := pushRingRow.holds Try.pinned (OpenSpec.ofChange pushRingSpec)

/-- ITS FALSE NEIGHBOUR: 'it returns false'. Refute it at one input. -/
def pushRingWrong : ChangeSpec := { name := "pushRing", fn := fun _ => fun
  | [d1, d2, d3, d4] => { results := [.lit (.bool false)], args := [d1, d2, d3, d4] }
  | _ => none }
def PushRingWrongFalsely : Prop := pushRingRow.holds Try.pinned (OpenSpec.ofChange pushRingWrong)

/-- 'stagepostlaw27.PushDoes': WHATEVER THE INPUT: true; the input reads as it did. -/
def pushDoesSpec : ChangeSpec := { name := "pushDoes", fn := fun _ => fun
  | [d1, d2, d3, d4, d5, d6] => { results := [.lit (.bool true)], args := [d1, d2, d3, d4, d5, d6] }
  | _ => none }
def pushDoesRow : OpenClaim := { program := "ythijpcbblmcfiaa", sum := "b0c2f1e67b2358fc109bb68bcafe8d9b601838f0f11f74d34b3aff2e1b740786", func := "stagepost/stagepostlaw27.PushDoes", spec := "pushDoes", apart := false }
def PushDoesSaid : Prop := pushDoesRow.holds Try.pinned (OpenSpec.ofChange pushDoesSpec)

/-- ITS FALSE NEIGHBOUR: 'it returns false'. Refute it at one input. -/
def pushDoesWrong : ChangeSpec := { name := "pushDoes", fn := fun _ => fun
  | [d1, d2, d3, d4, d5, d6] => { results := [.lit (.bool false)], args := [d1, d2, d3, d4, d5, d6] }
  | _ => none }
def PushDoesWrongFalsely : Prop := pushDoesRow.holds Try.pinned (OpenSpec.ofChange pushDoesWrong)

/- THE SECOND FORM. 'bulk': how many values and letters a reading holds, each counted each time it is reached (what is shared counts as often as it is met; a slice's spare places count too). A statement '..UptoSaid' is the law's where the arguments, and the package variables that the reading takes, are together of bulk at most 1048576: NARROWER than '..Said'. Prove '..Said' where nothing that the law and all that it calls make is longer than what came in: it says more and counts as full. Else prove '..UptoSaid'. A law counts once. -/
mutual
def uptoBulk {H : Type} : DataW H → Nat
  | .lit (.string bytes) => bytes.length + 1
  | .lit _ => 1
  | .nil => 1
  | .ptr d => uptoBulk d + 1
  | .slice elems spare => uptoBulkAll elems + uptoBulkAll spare + 1
  | .agg parts => uptoBulkAll parts + 1
  | .iface _ d => uptoBulk d + 1
  | .map entries => uptoBulkEntries entries + 1
  | .held _ => 1
def uptoBulkAll {H : Type} : List (DataW H) → Nat
  | [] => 0
  | d :: r => uptoBulk d + uptoBulkAll r
def uptoBulkEntries {H : Type} : List (Lit × DataW H) → Nat
  | [] => 0
  | x :: r => uptoBulkEntry x + uptoBulkEntries r
def uptoBulkEntry {H : Type} : Lit × DataW H → Nat
  | (.string bytes, d) => bytes.length + uptoBulk d + 1
  | (_, d) => uptoBulk d + 1
 end
def uptoSmall : (H : Type) → List (DataW H) → Bool := fun _ ds => decide (uptoBulkAll ds ≤ 1048576)
def OpenSpec.upto (s : _root_.Go.ChangeSpec) : _root_.Go.OpenSpec := { _root_.Go.OpenSpec.ofChange s with cond := some uptoSmall }

/-- 'stagepostlaw20.HlcCalls', WHERE WHAT IT READS IS OF BULK AT MOST 1048576: true; the input reads as it did. -/
def hlcCallsUptoRow : OpenClaim := { program := "ythijpcbblmcfiaa", sum := "b0c2f1e67b2358fc109bb68bcafe8d9b601838f0f11f74d34b3aff2e1b740786", func := "stagepost/stagepostlaw20.HlcCalls", spec := "hlcCalls", apart := false, narrowed := true }
def HlcCallsUptoSaid : Prop := hlcCallsUptoRow.holds Try.pinned (OpenSpec.upto hlcCallsSpec)

/-- 'stagepostlaw20.HlcNext', WHERE WHAT IT READS IS OF BULK AT MOST 1048576: true; the input reads as it did. -/
def hlcNextUptoRow : OpenClaim := { program := "ythijpcbblmcfiaa", sum := "b0c2f1e67b2358fc109bb68bcafe8d9b601838f0f11f74d34b3aff2e1b740786", func := "stagepost/stagepostlaw20.HlcNext", spec := "hlcNext", apart := false, narrowed := true }
def HlcNextUptoSaid : Prop := hlcNextUptoRow.holds Try.pinned (OpenSpec.upto hlcNextSpec)

/-- 'stagepostlaw20.HlcNames', WHERE WHAT IT READS IS OF BULK AT MOST 1048576: true; the input reads as it did. -/
def hlcNamesUptoRow : OpenClaim := { program := "ythijpcbblmcfiaa", sum := "b0c2f1e67b2358fc109bb68bcafe8d9b601838f0f11f74d34b3aff2e1b740786", func := "stagepost/stagepostlaw20.HlcNames", spec := "hlcNames", apart := false, narrowed := true }
def HlcNamesUptoSaid : Prop := hlcNamesUptoRow.holds Try.pinned (OpenSpec.upto hlcNamesSpec)

/-- 'stagepostlaw20.HlcScript', WHERE WHAT IT READS IS OF BULK AT MOST 1048576: true; the input reads as it did. -/
def hlcScriptUptoRow : OpenClaim := { program := "ythijpcbblmcfiaa", sum := "b0c2f1e67b2358fc109bb68bcafe8d9b601838f0f11f74d34b3aff2e1b740786", func := "stagepost/stagepostlaw20.HlcScript", spec := "hlcScript", apart := false, narrowed := true }
def HlcScriptUptoSaid : Prop := hlcScriptUptoRow.holds Try.pinned (OpenSpec.upto hlcScriptSpec)

/-- 'stagepostlaw20.HlcNil', WHERE WHAT IT READS IS OF BULK AT MOST 1048576: true; the input reads as it did. -/
def hlcNilUptoRow : OpenClaim := { program := "ythijpcbblmcfiaa", sum := "b0c2f1e67b2358fc109bb68bcafe8d9b601838f0f11f74d34b3aff2e1b740786", func := "stagepost/stagepostlaw20.HlcNil", spec := "hlcNil", apart := false, narrowed := true }
def HlcNilUptoSaid : Prop := hlcNilUptoRow.holds Try.pinned (OpenSpec.upto hlcNilSpec)

/-- 'stagepostlaw20.HlcRises', WHERE WHAT IT READS IS OF BULK AT MOST 1048576: true; the input reads as it did. -/
def hlcRisesUptoRow : OpenClaim := { program := "ythijpcbblmcfiaa", sum := "b0c2f1e67b2358fc109bb68bcafe8d9b601838f0f11f74d34b3aff2e1b740786", func := "stagepost/stagepostlaw20.HlcRises", spec := "hlcRises", apart := false, narrowed := true }
def HlcRisesUptoSaid : Prop := hlcRisesUptoRow.holds Try.pinned (OpenSpec.upto hlcRisesSpec)

/-- 'stagepostlaw27.PushNames', WHERE WHAT IT READS IS OF BULK AT MOST 1048576: true; the input reads as it did. -/
def pushNamesUptoRow : OpenClaim := { program := "ythijpcbblmcfiaa", sum := "b0c2f1e67b2358fc109bb68bcafe8d9b601838f0f11f74d34b3aff2e1b740786", func := "stagepost/stagepostlaw27.PushNames", spec := "pushNames", apart := false, narrowed := true }
def PushNamesUptoSaid : Prop := pushNamesUptoRow.holds Try.pinned (OpenSpec.upto pushNamesSpec)

/-- 'stagepostlaw27.PushCalls', WHERE WHAT IT READS IS OF BULK AT MOST 1048576: true; the input reads as it did. -/
def pushCallsUptoRow : OpenClaim := { program := "ythijpcbblmcfiaa", sum := "b0c2f1e67b2358fc109bb68bcafe8d9b601838f0f11f74d34b3aff2e1b740786", func := "stagepost/stagepostlaw27.PushCalls", spec := "pushCalls", apart := false, narrowed := true }
def PushCallsUptoSaid : Prop := pushCallsUptoRow.holds Try.pinned (OpenSpec.upto pushCallsSpec)

/-- 'stagepostlaw27.PushRing', WHERE WHAT IT READS IS OF BULK AT MOST 1048576: true; the input reads as it did. -/
def pushRingUptoRow : OpenClaim := { program := "ythijpcbblmcfiaa", sum := "b0c2f1e67b2358fc109bb68bcafe8d9b601838f0f11f74d34b3aff2e1b740786", func := "stagepost/stagepostlaw27.PushRing", spec := "pushRing", apart := false, narrowed := true }
def PushRingUptoSaid : Prop := pushRingUptoRow.holds Try.pinned (OpenSpec.upto pushRingSpec)

/-- 'stagepostlaw27.PushDoes', WHERE WHAT IT READS IS OF BULK AT MOST 1048576: true; the input reads as it did. -/
def pushDoesUptoRow : OpenClaim := { program := "ythijpcbblmcfiaa", sum := "b0c2f1e67b2358fc109bb68bcafe8d9b601838f0f11f74d34b3aff2e1b740786", func := "stagepost/stagepostlaw27.PushDoes", spec := "pushDoes", apart := false, narrowed := true }
def PushDoesUptoSaid : Prop := pushDoesUptoRow.holds Try.pinned (OpenSpec.upto pushDoesSpec)

end Rows
end Go.Proofs.Ythijpcbblmcfiaa
