/-
  No cell of these rows narrows 'for every input' (looked for: loops, veiled, ifaces, maps, wideKeys, modest, calm, conditions, laid).
  DERIVED. THE GIVEN ROWS OF THIS SEAT. 6 by the template 'for every input the law returns true; each argument reads behind the call as it read before'; 0 by the template 'total and deterministic' (their statements: YtjhgbdeadkoegaaTotals.lean).
  GIVEN WITH THE SEED: the statements are not yours to turn. If you find one false, say at which input.
  Laid BY PROGRAM, IN A SANDBOX (cutbox-rows.mjs): the forced cells as the released guide's own fill.sh prints them over the translation 02c8fec8eeacb44c… (all of the seat's roots in one cut). By AI agents, Wed Nov 11 2026. No macro, syntax, notation, axiom, sorry.
-/
import Derived.Test.YtjhgbdeadkoegaaChecked
import GoSem.Claim
import GoSem.ClaimJoined
import GoSem.ClaimMapViews
import Derived.JoinedTies
import Derived.KernelRfl
namespace Go.Proofs.Ytjhgbdeadkoegaa
/- THE CELL 'sum', in the pinned program and in every row, IS THE sha256 OF THE DUMP (.gsa) THAT YtjhgbdeadkoegaaProg.lean LOADS. Nothing in Lean hashes anything: it is a label: what it is worth is what the hold of that sum in a sandbox is worth. -/
noncomputable def Try.pinned : Pinned := { name := "ytjhgbdeadkoegaa", sum := "02c8fec8eeacb44cee7f49ccf5a0eac8c9bf70807b5c0b3bc5693ced7426529d", checked := Try.checked }
namespace Rows
def none {H : Type} : Left H := { results := [], args := [] }

/-- 'stagepostlaw06.MemOrder': WHATEVER THE INPUT: true; the input reads as it did. -/
def memOrderSpec : ChangeSpec := { name := "memOrder", fn := fun _ => fun
  | [d1, d2] => { results := [.lit (.bool true)], args := [d1, d2] }
  | _ => none }
def memOrderRow : OpenClaim := { program := "ytjhgbdeadkoegaa", sum := "02c8fec8eeacb44cee7f49ccf5a0eac8c9bf70807b5c0b3bc5693ced7426529d", func := "stagepost/stagepostlaw06.MemOrder", spec := "memOrder", unfollowed := true, recurses := true, apart := false }
def MemOrderSaid : Prop := memOrderRow.holds Try.pinned (OpenSpec.ofChange memOrderSpec)

/-- ITS FALSE NEIGHBOUR: 'it returns false'. Refute it at one input. -/
def memOrderWrong : ChangeSpec := { name := "memOrder", fn := fun _ => fun
  | [d1, d2] => { results := [.lit (.bool false)], args := [d1, d2] }
  | _ => none }
def MemOrderWrongFalsely : Prop := memOrderRow.holds Try.pinned (OpenSpec.ofChange memOrderWrong)

/-- 'stagepostlaw06.MemVersions': WHATEVER THE INPUT: true; the input reads as it did. -/
def memVersionsSpec : ChangeSpec := { name := "memVersions", fn := fun _ => fun
  | [d1, d2, d3] => { results := [.lit (.bool true)], args := [d1, d2, d3] }
  | _ => none }
def memVersionsRow : OpenClaim := { program := "ytjhgbdeadkoegaa", sum := "02c8fec8eeacb44cee7f49ccf5a0eac8c9bf70807b5c0b3bc5693ced7426529d", func := "stagepost/stagepostlaw06.MemVersions", spec := "memVersions", unfollowed := true, recurses := true, apart := false }
def MemVersionsSaid : Prop := memVersionsRow.holds Try.pinned (OpenSpec.ofChange memVersionsSpec)

/-- ITS FALSE NEIGHBOUR: 'it returns false'. Refute it at one input. -/
def memVersionsWrong : ChangeSpec := { name := "memVersions", fn := fun _ => fun
  | [d1, d2, d3] => { results := [.lit (.bool false)], args := [d1, d2, d3] }
  | _ => none }
def MemVersionsWrongFalsely : Prop := memVersionsRow.holds Try.pinned (OpenSpec.ofChange memVersionsWrong)

/-- 'stagepostlaw06.MemLanes': WHATEVER THE INPUT: true; the input reads as it did. -/
def memLanesSpec : ChangeSpec := { name := "memLanes", fn := fun _ => fun
  | [d1, d2, d3] => { results := [.lit (.bool true)], args := [d1, d2, d3] }
  | _ => none }
def memLanesRow : OpenClaim := { program := "ytjhgbdeadkoegaa", sum := "02c8fec8eeacb44cee7f49ccf5a0eac8c9bf70807b5c0b3bc5693ced7426529d", func := "stagepost/stagepostlaw06.MemLanes", spec := "memLanes", unfollowed := true, recurses := true, apart := false }
def MemLanesSaid : Prop := memLanesRow.holds Try.pinned (OpenSpec.ofChange memLanesSpec)

/-- ITS FALSE NEIGHBOUR: 'it returns false'. Refute it at one input. -/
def memLanesWrong : ChangeSpec := { name := "memLanes", fn := fun _ => fun
  | [d1, d2, d3] => { results := [.lit (.bool false)], args := [d1, d2, d3] }
  | _ => none }
def MemLanesWrongFalsely : Prop := memLanesRow.holds Try.pinned (OpenSpec.ofChange memLanesWrong)

/-- 'stagepostlaw06.MemNames': WHATEVER THE INPUT: true; the input reads as it did. -/
def memNamesSpec : ChangeSpec := { name := "memNames", fn := fun _ => fun
  | [] => { results := [.lit (.bool true)], args := [] }
  | _ => none }
def memNamesRow : OpenClaim := { program := "ytjhgbdeadkoegaa", sum := "02c8fec8eeacb44cee7f49ccf5a0eac8c9bf70807b5c0b3bc5693ced7426529d", func := "stagepost/stagepostlaw06.MemNames", spec := "memNames", unfollowed := true, recurses := true, apart := false }
def MemNamesSaid : Prop := memNamesRow.holds Try.pinned (OpenSpec.ofChange memNamesSpec)

/-- ITS FALSE NEIGHBOUR: 'it returns false'. Refute it at one input. -/
def memNamesWrong : ChangeSpec := { name := "memNames", fn := fun _ => fun
  | [] => { results := [.lit (.bool false)], args := [] }
  | _ => none }
def MemNamesWrongFalsely : Prop := memNamesRow.holds Try.pinned (OpenSpec.ofChange memNamesWrong)

/-- 'stagepostlaw06.MemScript': WHATEVER THE INPUT: true; the input reads as it did. -/
def memScriptSpec : ChangeSpec := { name := "memScript", fn := fun _ => fun
  | [d1, d2, d3, d4] => { results := [.lit (.bool true)], args := [d1, d2, d3, d4] }
  | _ => none }
def memScriptRow : OpenClaim := { program := "ytjhgbdeadkoegaa", sum := "02c8fec8eeacb44cee7f49ccf5a0eac8c9bf70807b5c0b3bc5693ced7426529d", func := "stagepost/stagepostlaw06.MemScript", spec := "memScript", unfollowed := true, recurses := true, apart := false }
def MemScriptSaid : Prop := memScriptRow.holds Try.pinned (OpenSpec.ofChange memScriptSpec)

/-- ITS FALSE NEIGHBOUR: 'it returns false'. Refute it at one input. -/
def memScriptWrong : ChangeSpec := { name := "memScript", fn := fun _ => fun
  | [d1, d2, d3, d4] => { results := [.lit (.bool false)], args := [d1, d2, d3, d4] }
  | _ => none }
def MemScriptWrongFalsely : Prop := memScriptRow.holds Try.pinned (OpenSpec.ofChange memScriptWrong)

/-- 'stagepostlaw06.MemNil': WHATEVER THE INPUT: true; the input reads as it did. -/
def memNilSpec : ChangeSpec := { name := "memNil", fn := fun _ => fun
  | [d1, d2] => { results := [.lit (.bool true)], args := [d1, d2] }
  | _ => none }
def memNilRow : OpenClaim := { program := "ytjhgbdeadkoegaa", sum := "02c8fec8eeacb44cee7f49ccf5a0eac8c9bf70807b5c0b3bc5693ced7426529d", func := "stagepost/stagepostlaw06.MemNil", spec := "memNil", unfollowed := true, recurses := true, apart := false }
def MemNilSaid : Prop := memNilRow.holds Try.pinned (OpenSpec.ofChange memNilSpec)

/-- ITS FALSE NEIGHBOUR: 'it returns false'. Refute it at one input. -/
def memNilWrong : ChangeSpec := { name := "memNil", fn := fun _ => fun
  | [d1, d2] => { results := [.lit (.bool false)], args := [d1, d2] }
  | _ => none }
def MemNilWrongFalsely : Prop := memNilRow.holds Try.pinned (OpenSpec.ofChange memNilWrong)

/- THE SECOND FORM. 'bulk': how many values and letters a reading holds, each counted each time it is reached (what is shared counts as often as it is met; a slice's spare places count too). A statement '..UptoSaid' is the law's where the arguments, and the package variables that the reading takes, are together of bulk at most 1048576: NARROWER than '..Said'. Prove '..Said' where nothing that the law and all that it calls make is longer than what came in: it says more and counts as full. Else prove '..UptoSaid'. A law counts once. -/
mutual
def uptoBulk {H : Type} : DataW H → Nat
  | .lit (.string bytes) => bytes.length + 1
  | .lit _ => 1
  | .nil => 1
  | .ptr d => uptoBulk d + 1
  | .slice elems spare => uptoBulkAll elems + uptoBulkAll spare + 1
  | .agg parts => uptoBulkAll parts + 1
  | .iface _ d => uptoBulk d + 1
  | .map entries => uptoBulkEntries entries + 1
  | .held _ => 1
def uptoBulkAll {H : Type} : List (DataW H) → Nat
  | [] => 0
  | d :: r => uptoBulk d + uptoBulkAll r
def uptoBulkEntries {H : Type} : List (Lit × DataW H) → Nat
  | [] => 0
  | x :: r => uptoBulkEntry x + uptoBulkEntries r
def uptoBulkEntry {H : Type} : Lit × DataW H → Nat
  | (.string bytes, d) => bytes.length + uptoBulk d + 1
  | (_, d) => uptoBulk d + 1
 end
def uptoSmall : (H : Type) → List (DataW H) → Bool := fun _ ds => decide (uptoBulkAll ds ≤ 1048576)
def OpenSpec.upto (s : _root_.Go.ChangeSpec) : _root_.Go.OpenSpec := { _root_.Go.OpenSpec.ofChange s with cond := some uptoSmall }

/-- 'stagepostlaw06.MemOrder', WHERE WHAT IT READS IS OF BULK AT MOST 1048576: true; the input reads as it did. -/
def memOrderUptoRow : OpenClaim := { program := "ytjhgbdeadkoegaa", sum := "02c8fec8eeacb44cee7f49ccf5a0eac8c9bf70807b5c0b3bc5693ced7426529d", func := "stagepost/stagepostlaw06.MemOrder", spec := "memOrder", unfollowed := true, recurses := true, apart := false, narrowed := true }
def MemOrderUptoSaid : Prop := memOrderUptoRow.holds Try.pinned (OpenSpec.upto memOrderSpec)

/-- 'stagepostlaw06.MemVersions', WHERE WHAT IT READS IS OF BULK AT MOST 1048576: true; the input reads as it did. -/
def memVersionsUptoRow : OpenClaim := { program := "ytjhgbdeadkoegaa", sum := "02c8fec8eeacb44cee7f49ccf5a0eac8c9bf70807b5c0b3bc5693ced7426529d", func := "stagepost/stagepostlaw06.MemVersions", spec := "memVersions", unfollowed := true, recurses := true, apart := false, narrowed := true }
def MemVersionsUptoSaid : Prop := memVersionsUptoRow.holds Try.pinned (OpenSpec.upto memVersionsSpec)

/-- 'stagepostlaw06.MemLanes', WHERE WHAT IT READS IS OF BULK AT MOST 1048576: true; the input reads as it did. -/
def memLanesUptoRow : OpenClaim := { program := "ytjhgbdeadkoegaa", sum := "02c8fec8eeacb44cee7f49ccf5a0eac8c9bf70807b5c0b3bc5693ced7426529d", func := "stagepost/stagepostlaw06.MemLanes", spec := "memLanes", unfollowed := true, recurses := true, apart := false, narrowed := true }
def MemLanesUptoSaid : Prop := memLanesUptoRow.holds Try.pinned (OpenSpec.upto memLanesSpec)

/-- 'stagepostlaw06.MemNames', WHERE WHAT IT READS IS OF BULK AT MOST 1048576: true; the input reads as it did. -/
def memNamesUptoRow : OpenClaim := { program := "ytjhgbdeadkoegaa", sum := "02c8fec8eeacb44cee7f49ccf5a0eac8c9bf70807b5c0b3bc5693ced7426529d", func := "stagepost/stagepostlaw06.MemNames", spec := "memNames", unfollowed := true, recurses := true, apart := false, narrowed := true }
def MemNamesUptoSaid : Prop := memNamesUptoRow.holds Try.pinned (OpenSpec.upto memNamesSpec)

/-- 'stagepostlaw06.MemScript', WHERE WHAT IT READS IS OF BULK AT MOST 1048576: true; the input reads as it did. -/
def memScriptUptoRow : OpenClaim := { program := "ytjhgbdeadkoegaa", sum := "02c8fec8eeacb44cee7f49ccf5a0eac8c9bf70807b5c0b3bc5693ced7426529d", func := "stagepost/stagepostlaw06.MemScript", spec := "memScript", unfollowed := true, recurses := true, apart := false, narrowed := true }
def MemScriptUptoSaid : Prop := memScriptUptoRow.holds Try.pinned (OpenSpec.upto memScriptSpec)

/-- 'stagepostlaw06.MemNil', WHERE WHAT IT READS IS OF BULK AT MOST 1048576: true; the input reads as it did. -/
def memNilUptoRow : OpenClaim := { program := "ytjhgbdeadkoegaa", sum := "02c8fec8eeacb44cee7f49ccf5a0eac8c9bf70807b5c0b3bc5693ced7426529d", func := "stagepost/stagepostlaw06.MemNil", spec := "memNil", unfollowed := true, recurses := true, apart := false, narrowed := true }
def MemNilUptoSaid : Prop := memNilUptoRow.holds Try.pinned (OpenSpec.upto memNilSpec)

end Rows
end Go.Proofs.Ytjhgbdeadkoegaa
