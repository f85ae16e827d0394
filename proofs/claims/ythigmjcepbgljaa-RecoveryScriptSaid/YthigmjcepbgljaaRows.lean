/-
  No cell of these rows narrows 'for every input' (looked for: loops, veiled, ifaces, maps, wideKeys, modest, calm, conditions, laid).
  DERIVED. THE GIVEN ROWS OF THIS SEAT. 8 by the template 'for every input the law returns true; each argument reads behind the call as it read before'; 0 by the template 'total and deterministic' (their statements: YthigmjcepbgljaaTotals.lean).
  GIVEN WITH THE SEED: the statements are not yours to turn. If you find one false, say at which input.
  Laid BY PROGRAM, IN A SANDBOX (cutbox-rows.mjs): the forced cells as the released guide's own fill.sh prints them over the translation 18d31de040636d7a… (all of the seat's roots in one cut). By AI agents, Wed Nov 11 2026. No macro, syntax, notation, axiom, sorry.
-/
import Derived.Test.YthigmjcepbgljaaChecked
import GoSem.Claim
import GoSem.ClaimJoined
import GoSem.ClaimMapViews
import Derived.JoinedTies
import Derived.KernelRfl
namespace Go.Proofs.Ythigmjcepbgljaa
/- THE CELL 'sum', in the pinned program and in every row, IS THE sha256 OF THE DUMP (.gsa) THAT YthigmjcepbgljaaProg.lean LOADS. Nothing in Lean hashes anything: it is a label: what it is worth is what the hold of that sum in a sandbox is worth. -/
noncomputable def Try.pinned : Pinned := { name := "ythigmjcepbgljaa", sum := "18d31de040636d7a0d6a36ec92068861e6ec6dee3336ecf9adba39e1ae669309", checked := Try.checked }
namespace Rows
def none {H : Type} : Left H := { results := [], args := [] }

/-- 'stagepostlaw29.RecoveryNil': WHATEVER THE INPUT: true; the input reads as it did. -/
def recoveryNilSpec : ChangeSpec := { name := "recoveryNil", fn := fun _ => fun
  | [d] => { results := [.lit (.bool true)], args := [d] }
  | _ => none }
def recoveryNilRow : OpenClaim := { program := "ythigmjcepbgljaa", sum := "18d31de040636d7a0d6a36ec92068861e6ec6dee3336ecf9adba39e1ae669309", func := "stagepost/stagepostlaw29.RecoveryNil", spec := "recoveryNil", apart := false }
def RecoveryNilSaid : Prop := recoveryNilRow.holds Try.pinned (OpenSpec.ofChange recoveryNilSpec)

/-- ITS FALSE NEIGHBOUR: 'it returns false'. Refute it at one input. -/
def recoveryNilWrong : ChangeSpec := { name := "recoveryNil", fn := fun _ => fun
  | [d] => { results := [.lit (.bool false)], args := [d] }
  | _ => none }
def RecoveryNilWrongFalsely : Prop := recoveryNilRow.holds Try.pinned (OpenSpec.ofChange recoveryNilWrong)

/-- 'stagepostlaw29.RecoveryNames': WHATEVER THE INPUT: true; the input reads as it did. -/
def recoveryNamesSpec : ChangeSpec := { name := "recoveryNames", fn := fun _ => fun
  | [] => { results := [.lit (.bool true)], args := [] }
  | _ => none }
def recoveryNamesRow : OpenClaim := { program := "ythigmjcepbgljaa", sum := "18d31de040636d7a0d6a36ec92068861e6ec6dee3336ecf9adba39e1ae669309", func := "stagepost/stagepostlaw29.RecoveryNames", spec := "recoveryNames", apart := false }
def RecoveryNamesSaid : Prop := recoveryNamesRow.holds Try.pinned (OpenSpec.ofChange recoveryNamesSpec)

/-- ITS FALSE NEIGHBOUR: 'it returns false'. Refute it at one input. -/
def recoveryNamesWrong : ChangeSpec := { name := "recoveryNames", fn := fun _ => fun
  | [] => { results := [.lit (.bool false)], args := [] }
  | _ => none }
def RecoveryNamesWrongFalsely : Prop := recoveryNamesRow.holds Try.pinned (OpenSpec.ofChange recoveryNamesWrong)

/-- 'stagepostlaw29.RecoveryScript': WHATEVER THE INPUT: true; the input reads as it did. -/
def recoveryScriptSpec : ChangeSpec := { name := "recoveryScript", fn := fun _ => fun
  | [d1, d2, d3, d4] => { results := [.lit (.bool true)], args := [d1, d2, d3, d4] }
  | _ => none }
def recoveryScriptRow : OpenClaim := { program := "ythigmjcepbgljaa", sum := "18d31de040636d7a0d6a36ec92068861e6ec6dee3336ecf9adba39e1ae669309", func := "stagepost/stagepostlaw29.RecoveryScript", spec := "recoveryScript", apart := false }
def RecoveryScriptSaid : Prop := recoveryScriptRow.holds Try.pinned (OpenSpec.ofChange recoveryScriptSpec)

/-- ITS FALSE NEIGHBOUR: 'it returns false'. Refute it at one input. -/
def recoveryScriptWrong : ChangeSpec := { name := "recoveryScript", fn := fun _ => fun
  | [d1, d2, d3, d4] => { results := [.lit (.bool false)], args := [d1, d2, d3, d4] }
  | _ => none }
def RecoveryScriptWrongFalsely : Prop := recoveryScriptRow.holds Try.pinned (OpenSpec.ofChange recoveryScriptWrong)

/-- 'stagepostlaw29.RecoveryOrder': WHATEVER THE INPUT: true; the input reads as it did. -/
def recoveryOrderSpec : ChangeSpec := { name := "recoveryOrder", fn := fun _ => fun
  | [d1, d2, d3] => { results := [.lit (.bool true)], args := [d1, d2, d3] }
  | _ => none }
def recoveryOrderRow : OpenClaim := { program := "ythigmjcepbgljaa", sum := "18d31de040636d7a0d6a36ec92068861e6ec6dee3336ecf9adba39e1ae669309", func := "stagepost/stagepostlaw29.RecoveryOrder", spec := "recoveryOrder", apart := false }
def RecoveryOrderSaid : Prop := recoveryOrderRow.holds Try.pinned (OpenSpec.ofChange recoveryOrderSpec)

/-- ITS FALSE NEIGHBOUR: 'it returns false'. Refute it at one input. -/
def recoveryOrderWrong : ChangeSpec := { name := "recoveryOrder", fn := fun _ => fun
  | [d1, d2, d3] => { results := [.lit (.bool false)], args := [d1, d2, d3] }
  | _ => none }
def RecoveryOrderWrongFalsely : Prop := recoveryOrderRow.holds Try.pinned (OpenSpec.ofChange recoveryOrderWrong)

/-- 'stagepostlaw22.RecordApart': WHATEVER THE INPUT: true; the input reads as it did. -/
def recordApartSpec : ChangeSpec := { name := "recordApart", fn := fun _ => fun
  | [d1, d2, d3] => { results := [.lit (.bool true)], args := [d1, d2, d3] }
  | _ => none }
def recordApartRow : OpenClaim := { program := "ythigmjcepbgljaa", sum := "18d31de040636d7a0d6a36ec92068861e6ec6dee3336ecf9adba39e1ae669309", func := "stagepost/stagepostlaw22.RecordApart", spec := "recordApart", apart := false }
def RecordApartSaid : Prop := recordApartRow.holds Try.pinned (OpenSpec.ofChange recordApartSpec)

/-- ITS FALSE NEIGHBOUR: 'it returns false'. Refute it at one input. -/
def recordApartWrong : ChangeSpec := { name := "recordApart", fn := fun _ => fun
  | [d1, d2, d3] => { results := [.lit (.bool false)], args := [d1, d2, d3] }
  | _ => none }
def RecordApartWrongFalsely : Prop := recordApartRow.holds Try.pinned (OpenSpec.ofChange recordApartWrong)

/-- 'stagepostlaw22.RecordNames': WHATEVER THE INPUT: true; the input reads as it did. -/
def recordNamesSpec : ChangeSpec := { name := "recordNames", fn := fun _ => fun
  | [] => { results := [.lit (.bool true)], args := [] }
  | _ => none }
def recordNamesRow : OpenClaim := { program := "ythigmjcepbgljaa", sum := "18d31de040636d7a0d6a36ec92068861e6ec6dee3336ecf9adba39e1ae669309", func := "stagepost/stagepostlaw22.RecordNames", spec := "recordNames", apart := false }
def RecordNamesSaid : Prop := recordNamesRow.holds Try.pinned (OpenSpec.ofChange recordNamesSpec)

/-- ITS FALSE NEIGHBOUR: 'it returns false'. Refute it at one input. -/
def recordNamesWrong : ChangeSpec := { name := "recordNames", fn := fun _ => fun
  | [] => { results := [.lit (.bool false)], args := [] }
  | _ => none }
def RecordNamesWrongFalsely : Prop := recordNamesRow.holds Try.pinned (OpenSpec.ofChange recordNamesWrong)

/-- 'stagepostlaw22.RecordCalls': WHATEVER THE INPUT: true; the input reads as it did. -/
def recordCallsSpec : ChangeSpec := { name := "recordCalls", fn := fun _ => fun
  | [d1, d2, d3, d4] => { results := [.lit (.bool true)], args := [d1, d2, d3, d4] }
  | _ => none }
def recordCallsRow : OpenClaim := { program := "ythigmjcepbgljaa", sum := "18d31de040636d7a0d6a36ec92068861e6ec6dee3336ecf9adba39e1ae669309", func := "stagepost/stagepostlaw22.RecordCalls", spec := "recordCalls", apart := false }
def RecordCallsSaid : Prop := recordCallsRow.holds Try.pinned (OpenSpec.ofChange recordCallsSpec)

/-- ITS FALSE NEIGHBOUR: 'it returns false'. Refute it at one input. -/
def recordCallsWrong : ChangeSpec := { name := "recordCalls", fn := fun _ => fun
  | [d1, d2, d3, d4] => { results := [.lit (.bool false)], args := [d1, d2, d3, d4] }
  | _ => none }
def RecordCallsWrongFalsely : Prop := recordCallsRow.holds Try.pinned (OpenSpec.ofChange recordCallsWrong)

/-- 'stagepostlaw22.RecordFinal': WHATEVER THE INPUT: true; the input reads as it did. -/
def recordFinalSpec : ChangeSpec := { name := "recordFinal", fn := fun _ => fun
  | [d1, d2, d3] => { results := [.lit (.bool true)], args := [d1, d2, d3] }
  | _ => none }
def recordFinalRow : OpenClaim := { program := "ythigmjcepbgljaa", sum := "18d31de040636d7a0d6a36ec92068861e6ec6dee3336ecf9adba39e1ae669309", func := "stagepost/stagepostlaw22.RecordFinal", spec := "recordFinal", apart := false }
def RecordFinalSaid : Prop := recordFinalRow.holds Try.pinned (OpenSpec.ofChange recordFinalSpec)

/-- ITS FALSE NEIGHBOUR: 'it returns false'. Refute it at one input. -/
def recordFinalWrong : ChangeSpec := { name := "recordFinal", fn := fun _ => fun
  | [d1, d2, d3] => { results := [.lit (.bool false)], args := [d1, d2, d3] }
  | _ => none }
def RecordFinalWrongFalsely : Prop := recordFinalRow.holds Try.pinned (OpenSpec.ofChange recordFinalWrong)

/- THE SECOND FORM. 'bulk': how many values and letters a reading holds, each counted each time it is reached (what is shared counts as often as it is met; a slice's spare places count too). A statement '..UptoSaid' is the law's where the arguments, and the package variables that the reading takes, are together of bulk at most 1048576: NARROWER than '..Said'. Prove '..Said' where nothing that the law and all that it calls make is longer than what came in: it says more and counts as full. Else prove '..UptoSaid'. A law counts once. -/
mutual
def uptoBulk {H : Type} : DataW H → Nat
  | .lit (.string bytes) => bytes.length + 1
  | .lit _ => 1
  | .nil => 1
  | .ptr d => uptoBulk d + 1
  | .slice elems spare => uptoBulkAll elems + uptoBulkAll spare + 1
  | .agg parts => uptoBulkAll parts + 1
  | .iface _ d => uptoBulk d + 1
  | .map entries => uptoBulkEntries entries + 1
  | .held _ => 1
def uptoBulkAll {H : Type} : List (DataW H) → Nat
  | [] => 0
  | d :: r => uptoBulk d + uptoBulkAll r
def uptoBulkEntries {H : Type} : List (Lit × DataW H) → Nat
  | [] => 0
  | x :: r => uptoBulkEntry x + uptoBulkEntries r
def uptoBulkEntry {H : Type} : Lit × DataW H → Nat
  | (.string bytes, d) => bytes.length + uptoBulk d + 1
  | (_, d) => uptoBulk d + 1
 end
def uptoSmall : (H : Type) → List (DataW H) → Bool := fun _ ds => decide (uptoBulkAll ds ≤ 1048576)
def OpenSpec.upto (s : _root_.Go.ChangeSpec) : _root_.Go.OpenSpec := { _root_.Go.OpenSpec.ofChange s with cond := some uptoSmall }

/-- 'stagepostlaw29.RecoveryNil', WHERE WHAT IT READS IS OF BULK AT MOST 1048576: true; the input reads as it did. -/
def recoveryNilUptoRow : OpenClaim := { program := "ythigmjcepbgljaa", sum := "18d31de040636d7a0d6a36ec92068861e6ec6dee3336ecf9adba39e1ae669309", func := "stagepost/stagepostlaw29.RecoveryNil", spec := "recoveryNil", apart := false, narrowed := true }
def RecoveryNilUptoSaid : Prop := recoveryNilUptoRow.holds Try.pinned (OpenSpec.upto recoveryNilSpec)

/-- 'stagepostlaw29.RecoveryNames', WHERE WHAT IT READS IS OF BULK AT MOST 1048576: true; the input reads as it did. -/
def recoveryNamesUptoRow : OpenClaim := { program := "ythigmjcepbgljaa", sum := "18d31de040636d7a0d6a36ec92068861e6ec6dee3336ecf9adba39e1ae669309", func := "stagepost/stagepostlaw29.RecoveryNames", spec := "recoveryNames", apart := false, narrowed := true }
def RecoveryNamesUptoSaid : Prop := recoveryNamesUptoRow.holds Try.pinned (OpenSpec.upto recoveryNamesSpec)

/-- 'stagepostlaw29.RecoveryScript', WHERE WHAT IT READS IS OF BULK AT MOST 1048576: true; the input reads as it did. -/
def recoveryScriptUptoRow : OpenClaim := { program := "ythigmjcepbgljaa", sum := "18d31de040636d7a0d6a36ec92068861e6ec6dee3336ecf9adba39e1ae669309", func := "stagepost/stagepostlaw29.RecoveryScript", spec := "recoveryScript", apart := false, narrowed := true }
def RecoveryScriptUptoSaid : Prop := recoveryScriptUptoRow.holds Try.pinned (OpenSpec.upto recoveryScriptSpec)

/-- 'stagepostlaw29.RecoveryOrder', WHERE WHAT IT READS IS OF BULK AT MOST 1048576: true; the input reads as it did. -/
def recoveryOrderUptoRow : OpenClaim := { program := "ythigmjcepbgljaa", sum := "18d31de040636d7a0d6a36ec92068861e6ec6dee3336ecf9adba39e1ae669309", func := "stagepost/stagepostlaw29.RecoveryOrder", spec := "recoveryOrder", apart := false, narrowed := true }
def RecoveryOrderUptoSaid : Prop := recoveryOrderUptoRow.holds Try.pinned (OpenSpec.upto recoveryOrderSpec)

/-- 'stagepostlaw22.RecordApart', WHERE WHAT IT READS IS OF BULK AT MOST 1048576: true; the input reads as it did. -/
def recordApartUptoRow : OpenClaim := { program := "ythigmjcepbgljaa", sum := "18d31de040636d7a0d6a36ec92068861e6ec6dee3336ecf9adba39e1ae669309", func := "stagepost/stagepostlaw22.RecordApart", spec := "recordApart", apart := false, narrowed := true }
def RecordApartUptoSaid : Prop := recordApartUptoRow.holds Try.pinned (OpenSpec.upto recordApartSpec)

/-- 'stagepostlaw22.RecordNames', WHERE WHAT IT READS IS OF BULK AT MOST 1048576: true; the input reads as it did. -/
def recordNamesUptoRow : OpenClaim := { program := "ythigmjcepbgljaa", sum := "18d31de040636d7a0d6a36ec92068861e6ec6dee3336ecf9adba39e1ae669309", func := "stagepost/stagepostlaw22.RecordNames", spec := "recordNames", apart := false, narrowed := true }
def RecordNamesUptoSaid : Prop := recordNamesUptoRow.holds Try.pinned (OpenSpec.upto recordNamesSpec)

/-- 'stagepostlaw22.RecordCalls', WHERE WHAT IT READS IS OF BULK AT MOST 1048576: true; the input reads as it did. -/
def recordCallsUptoRow : OpenClaim := { program := "ythigmjcepbgljaa", sum := "18d31de040636d7a0d6a36ec92068861e6ec6dee3336ecf9adba39e1ae669309", func := "stagepost/stagepostlaw22.RecordCalls", spec := "recordCalls", apart := false, narrowed := true }
def RecordCallsUptoSaid : Prop := recordCallsUptoRow.holds Try.pinned (OpenSpec.upto recordCallsSpec)

/-- 'stagepostlaw22.RecordFinal', WHERE WHAT IT READS IS OF BULK AT MOST 1048576: true; the input reads as it did. -/
def recordFinalUptoRow : OpenClaim := { program := "ythigmjcepbgljaa", sum := "18d31de040636d7a0d6a36ec92068861e6ec6dee3336ecf9adba39e1ae669309", func := "stagepost/stagepostlaw22.RecordFinal", spec := "recordFinal", apart := false, narrowed := true }
def RecordFinalUptoSaid : Prop := recordFinalUptoRow.holds Try.pinned (OpenSpec.upto recordFinalSpec)

end Rows
end Go.Proofs.Ythigmjcepbgljaa
