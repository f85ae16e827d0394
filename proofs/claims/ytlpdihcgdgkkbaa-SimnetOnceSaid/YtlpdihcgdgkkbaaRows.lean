/-
  No cell of these rows narrows 'for every input' (looked for: loops, veiled, ifaces, maps, wideKeys, modest, calm, conditions, laid).
  DERIVED. THE GIVEN ROWS OF THIS SEAT. 12 by the template 'for every input the law returns true; each argument reads behind the call as it read before'; 0 by the template 'total and deterministic' (their statements: YtlpdihcgdgkkbaaTotals.lean).
  GIVEN WITH THE SEED: the statements are not yours to turn. If you find one false, say at which input.
  Laid BY PROGRAM, IN A SANDBOX (cutbox-rows.mjs): the forced cells as the released guide's own fill.sh prints them over the translation e3b442c127392691… (all of the seat's roots in one cut). By AI agents, Wed Nov 11 2026. No macro, syntax, notation, axiom, sorry.
-/
import Derived.Test.YtlpdihcgdgkkbaaChecked
import GoSem.Claim
import GoSem.ClaimJoined
import GoSem.ClaimMapViews
import Derived.JoinedTies
import Derived.KernelRfl
namespace Go.Proofs.Ytlpdihcgdgkkbaa
/- THE CELL 'sum', in the pinned program and in every row, IS THE sha256 OF THE DUMP (.gsa) THAT YtlpdihcgdgkkbaaProg.lean LOADS. Nothing in Lean hashes anything: it is a label: what it is worth is what the hold of that sum in a sandbox is worth. -/
noncomputable def Try.pinned : Pinned := { name := "ytlpdihcgdgkkbaa", sum := "e3b442c127392691b293099a1c1dab81314d8c9a4ca4a99beee6bbfe682415c4", checked := Try.checked }
namespace Rows
def none {H : Type} : Left H := { results := [], args := [] }

/-- 'stagepostlaw08.BloomNames': WHATEVER THE INPUT: true; the input reads as it did. -/
def bloomNamesSpec : ChangeSpec := { name := "bloomNames", fn := fun _ => fun
  | [] => { results := [.lit (.bool true)], args := [] }
  | _ => none }
def bloomNamesRow : OpenClaim := { program := "ytlpdihcgdgkkbaa", sum := "e3b442c127392691b293099a1c1dab81314d8c9a4ca4a99beee6bbfe682415c4", func := "stagepost/stagepostlaw08.BloomNames", spec := "bloomNames", apart := false }
def BloomNamesSaid : Prop := bloomNamesRow.holds Try.pinned (OpenSpec.ofChange bloomNamesSpec)

/-- ITS FALSE NEIGHBOUR: 'it returns false'. Refute it at one input. -/
def bloomNamesWrong : ChangeSpec := { name := "bloomNames", fn := fun _ => fun
  | [] => { results := [.lit (.bool false)], args := [] }
  | _ => none }
def BloomNamesWrongFalsely : Prop := bloomNamesRow.holds Try.pinned (OpenSpec.ofChange bloomNamesWrong)

/-- 'stagepostlaw08.BloomFound': WHATEVER THE INPUT: true; the input reads as it did. -/
def bloomFoundSpec : ChangeSpec := { name := "bloomFound", fn := fun _ => fun
  | [d1, d2] => { results := [.lit (.bool true)], args := [d1, d2] }
  | _ => none }
def bloomFoundRow : OpenClaim := { program := "ytlpdihcgdgkkbaa", sum := "e3b442c127392691b293099a1c1dab81314d8c9a4ca4a99beee6bbfe682415c4", func := "stagepost/stagepostlaw08.BloomFound", spec := "bloomFound", apart := false }
def BloomFoundSaid : Prop := bloomFoundRow.holds Try.pinned (OpenSpec.ofChange bloomFoundSpec)

/-- ITS FALSE NEIGHBOUR: 'it returns false'. Refute it at one input. -/
def bloomFoundWrong : ChangeSpec := { name := "bloomFound", fn := fun _ => fun
  | [d1, d2] => { results := [.lit (.bool false)], args := [d1, d2] }
  | _ => none }
def BloomFoundWrongFalsely : Prop := bloomFoundRow.holds Try.pinned (OpenSpec.ofChange bloomFoundWrong)

/-- 'stagepostlaw08.BloomCalls': WHATEVER THE INPUT: true; the input reads as it did. -/
def bloomCallsSpec : ChangeSpec := { name := "bloomCalls", fn := fun _ => fun
  | [d1, d2, d3, d4, d5] => { results := [.lit (.bool true)], args := [d1, d2, d3, d4, d5] }
  | _ => none }
def bloomCallsRow : OpenClaim := { program := "ytlpdihcgdgkkbaa", sum := "e3b442c127392691b293099a1c1dab81314d8c9a4ca4a99beee6bbfe682415c4", func := "stagepost/stagepostlaw08.BloomCalls", spec := "bloomCalls", apart := false }
def BloomCallsSaid : Prop := bloomCallsRow.holds Try.pinned (OpenSpec.ofChange bloomCallsSpec)

/-- ITS FALSE NEIGHBOUR: 'it returns false'. Refute it at one input. -/
def bloomCallsWrong : ChangeSpec := { name := "bloomCalls", fn := fun _ => fun
  | [d1, d2, d3, d4, d5] => { results := [.lit (.bool false)], args := [d1, d2, d3, d4, d5] }
  | _ => none }
def BloomCallsWrongFalsely : Prop := bloomCallsRow.holds Try.pinned (OpenSpec.ofChange bloomCallsWrong)

/-- 'stagepostlaw08.BloomBoth': WHATEVER THE INPUT: true; the input reads as it did. -/
def bloomBothSpec : ChangeSpec := { name := "bloomBoth", fn := fun _ => fun
  | [d1, d2, d3, d4] => { results := [.lit (.bool true)], args := [d1, d2, d3, d4] }
  | _ => none }
def bloomBothRow : OpenClaim := { program := "ytlpdihcgdgkkbaa", sum := "e3b442c127392691b293099a1c1dab81314d8c9a4ca4a99beee6bbfe682415c4", func := "stagepost/stagepostlaw08.BloomBoth", spec := "bloomBoth", apart := false }
def BloomBothSaid : Prop := bloomBothRow.holds Try.pinned (OpenSpec.ofChange bloomBothSpec)

/-- ITS FALSE NEIGHBOUR: 'it returns false'. Refute it at one input. -/
def bloomBothWrong : ChangeSpec := { name := "bloomBoth", fn := fun _ => fun
  | [d1, d2, d3, d4] => { results := [.lit (.bool false)], args := [d1, d2, d3, d4] }
  | _ => none }
def BloomBothWrongFalsely : Prop := bloomBothRow.holds Try.pinned (OpenSpec.ofChange bloomBothWrong)

/-- 'stagepostlaw25.SimnetNames': WHATEVER THE INPUT: true; the input reads as it did. -/
def simnetNamesSpec : ChangeSpec := { name := "simnetNames", fn := fun _ => fun
  | [] => { results := [.lit (.bool true)], args := [] }
  | _ => none }
def simnetNamesRow : OpenClaim := { program := "ytlpdihcgdgkkbaa", sum := "e3b442c127392691b293099a1c1dab81314d8c9a4ca4a99beee6bbfe682415c4", func := "stagepost/stagepostlaw25.SimnetNames", spec := "simnetNames", unfollowed := true, recurses := true, apart := false }
def SimnetNamesSaid : Prop := simnetNamesRow.holds Try.pinned (OpenSpec.ofChange simnetNamesSpec)

/-- ITS FALSE NEIGHBOUR: 'it returns false'. Refute it at one input. -/
def simnetNamesWrong : ChangeSpec := { name := "simnetNames", fn := fun _ => fun
  | [] => { results := [.lit (.bool false)], args := [] }
  | _ => none }
def SimnetNamesWrongFalsely : Prop := simnetNamesRow.holds Try.pinned (OpenSpec.ofChange simnetNamesWrong)

/-- 'stagepostlaw25.SimnetOnce': WHATEVER THE INPUT: true; the input reads as it did. -/
def simnetOnceSpec : ChangeSpec := { name := "simnetOnce", fn := fun _ => fun
  | [d1, d2] => { results := [.lit (.bool true)], args := [d1, d2] }
  | _ => none }
def simnetOnceRow : OpenClaim := { program := "ytlpdihcgdgkkbaa", sum := "e3b442c127392691b293099a1c1dab81314d8c9a4ca4a99beee6bbfe682415c4", func := "stagepost/stagepostlaw25.SimnetOnce", spec := "simnetOnce", unfollowed := true, recurses := true, apart := false }
def SimnetOnceSaid : Prop := simnetOnceRow.holds Try.pinned (OpenSpec.ofChange simnetOnceSpec)

/-- ITS FALSE NEIGHBOUR: 'it returns false'. Refute it at one input. -/
def simnetOnceWrong : ChangeSpec := { name := "simnetOnce", fn := fun _ => fun
  | [d1, d2] => { results := [.lit (.bool false)], args := [d1, d2] }
  | _ => none }
def SimnetOnceWrongFalsely : Prop := simnetOnceRow.holds Try.pinned (OpenSpec.ofChange simnetOnceWrong)

/-- 'stagepostlaw21.RangesNames': WHATEVER THE INPUT: true; the input reads as it did. -/
def rangesNamesSpec : ChangeSpec := { name := "rangesNames", fn := fun _ => fun
  | [] => { results := [.lit (.bool true)], args := [] }
  | _ => none }
def rangesNamesRow : OpenClaim := { program := "ytlpdihcgdgkkbaa", sum := "e3b442c127392691b293099a1c1dab81314d8c9a4ca4a99beee6bbfe682415c4", func := "stagepost/stagepostlaw21.RangesNames", spec := "rangesNames", apart := false }
def RangesNamesSaid : Prop := rangesNamesRow.holds Try.pinned (OpenSpec.ofChange rangesNamesSpec)

/-- ITS FALSE NEIGHBOUR: 'it returns false'. Refute it at one input. -/
def rangesNamesWrong : ChangeSpec := { name := "rangesNames", fn := fun _ => fun
  | [] => { results := [.lit (.bool false)], args := [] }
  | _ => none }
def RangesNamesWrongFalsely : Prop := rangesNamesRow.holds Try.pinned (OpenSpec.ofChange rangesNamesWrong)

/-- 'stagepostlaw21.RangesMeet': WHATEVER THE INPUT: true; the input reads as it did. -/
def rangesMeetSpec : ChangeSpec := { name := "rangesMeet", fn := fun _ => fun
  | [d1, d2, d3] => { results := [.lit (.bool true)], args := [d1, d2, d3] }
  | _ => none }
def rangesMeetRow : OpenClaim := { program := "ytlpdihcgdgkkbaa", sum := "e3b442c127392691b293099a1c1dab81314d8c9a4ca4a99beee6bbfe682415c4", func := "stagepost/stagepostlaw21.RangesMeet", spec := "rangesMeet", apart := false }
def RangesMeetSaid : Prop := rangesMeetRow.holds Try.pinned (OpenSpec.ofChange rangesMeetSpec)

/-- ITS FALSE NEIGHBOUR: 'it returns false'. Refute it at one input. -/
def rangesMeetWrong : ChangeSpec := { name := "rangesMeet", fn := fun _ => fun
  | [d1, d2, d3] => { results := [.lit (.bool false)], args := [d1, d2, d3] }
  | _ => none }
def RangesMeetWrongFalsely : Prop := rangesMeetRow.holds Try.pinned (OpenSpec.ofChange rangesMeetWrong)

/-- 'stagepostlaw25.SimnetScript': WHATEVER THE INPUT: true; the input reads as it did. -/
def simnetScriptSpec : ChangeSpec := { name := "simnetScript", fn := fun _ => fun
  | [d1, d2, d3] => { results := [.lit (.bool true)], args := [d1, d2, d3] }
  | _ => none }
def simnetScriptRow : OpenClaim := { program := "ytlpdihcgdgkkbaa", sum := "e3b442c127392691b293099a1c1dab81314d8c9a4ca4a99beee6bbfe682415c4", func := "stagepost/stagepostlaw25.SimnetScript", spec := "simnetScript", unfollowed := true, recurses := true, apart := false }
def SimnetScriptSaid : Prop := simnetScriptRow.holds Try.pinned (OpenSpec.ofChange simnetScriptSpec)

/-- ITS FALSE NEIGHBOUR: 'it returns false'. Refute it at one input. -/
def simnetScriptWrong : ChangeSpec := { name := "simnetScript", fn := fun _ => fun
  | [d1, d2, d3] => { results := [.lit (.bool false)], args := [d1, d2, d3] }
  | _ => none }
def SimnetScriptWrongFalsely : Prop := simnetScriptRow.holds Try.pinned (OpenSpec.ofChange simnetScriptWrong)

/-- 'stagepostlaw25.SimnetNil': WHATEVER THE INPUT: true; the input reads as it did. -/
def simnetNilSpec : ChangeSpec := { name := "simnetNil", fn := fun _ => fun
  | [d] => { results := [.lit (.bool true)], args := [d] }
  | _ => none }
def simnetNilRow : OpenClaim := { program := "ytlpdihcgdgkkbaa", sum := "e3b442c127392691b293099a1c1dab81314d8c9a4ca4a99beee6bbfe682415c4", func := "stagepost/stagepostlaw25.SimnetNil", spec := "simnetNil", unfollowed := true, recurses := true, apart := false }
def SimnetNilSaid : Prop := simnetNilRow.holds Try.pinned (OpenSpec.ofChange simnetNilSpec)

/-- ITS FALSE NEIGHBOUR: 'it returns false'. Refute it at one input. -/
def simnetNilWrong : ChangeSpec := { name := "simnetNil", fn := fun _ => fun
  | [d] => { results := [.lit (.bool false)], args := [d] }
  | _ => none }
def SimnetNilWrongFalsely : Prop := simnetNilRow.holds Try.pinned (OpenSpec.ofChange simnetNilWrong)

/-- 'stagepostlaw21.RangesPart': WHATEVER THE INPUT: true; the input reads as it did. -/
def rangesPartSpec : ChangeSpec := { name := "rangesPart", fn := fun _ => fun
  | [d1, d2, d3, d4] => { results := [.lit (.bool true)], args := [d1, d2, d3, d4] }
  | _ => none }
def rangesPartRow : OpenClaim := { program := "ytlpdihcgdgkkbaa", sum := "e3b442c127392691b293099a1c1dab81314d8c9a4ca4a99beee6bbfe682415c4", func := "stagepost/stagepostlaw21.RangesPart", spec := "rangesPart", apart := false }
def RangesPartSaid : Prop := rangesPartRow.holds Try.pinned (OpenSpec.ofChange rangesPartSpec)

/-- ITS FALSE NEIGHBOUR: 'it returns false'. Refute it at one input. -/
def rangesPartWrong : ChangeSpec := { name := "rangesPart", fn := fun _ => fun
  | [d1, d2, d3, d4] => { results := [.lit (.bool false)], args := [d1, d2, d3, d4] }
  | _ => none }
def RangesPartWrongFalsely : Prop := rangesPartRow.holds Try.pinned (OpenSpec.ofChange rangesPartWrong)

/-- 'stagepostlaw21.RangesCalls': WHATEVER THE INPUT: true; the input reads as it did. -/
def rangesCallsSpec : ChangeSpec := { name := "rangesCalls", fn := fun _ => fun
  | [d1, d2, d3, d4, d5] => { results := [.lit (.bool true)], args := [d1, d2, d3, d4, d5] }
  | _ => none }
def rangesCallsRow : OpenClaim := { program := "ytlpdihcgdgkkbaa", sum := "e3b442c127392691b293099a1c1dab81314d8c9a4ca4a99beee6bbfe682415c4", func := "stagepost/stagepostlaw21.RangesCalls", spec := "rangesCalls", apart := false }
def RangesCallsSaid : Prop := rangesCallsRow.holds Try.pinned (OpenSpec.ofChange rangesCallsSpec)

/-- ITS FALSE NEIGHBOUR: 'it returns false'. Refute it at one input. -/
def rangesCallsWrong : ChangeSpec := { name := "rangesCalls", fn := fun _ => fun
  | [d1, d2, d3, d4, d5] => { results := [.lit (.bool false)], args := [d1, d2, d3, d4, d5] }
  | _ => none }
def RangesCallsWrongFalsely : Prop := rangesCallsRow.holds Try.pinned (OpenSpec.ofChange rangesCallsWrong)

/- THE SECOND FORM. 'bulk': how many values and letters a reading holds, each counted each time it is reached (what is shared counts as often as it is met; a slice's spare places count too). A statement '..UptoSaid' is the law's where the arguments, and the package variables that the reading takes, are together of bulk at most 1048576: NARROWER than '..Said'. Prove '..Said' where nothing that the law and all that it calls make is longer than what came in: it says more and counts as full. Else prove '..UptoSaid'. A law counts once. -/
mutual
def uptoBulk {H : Type} : DataW H → Nat
  | .lit (.string bytes) => bytes.length + 1
  | .lit _ => 1
  | .nil => 1
  | .ptr d => uptoBulk d + 1
  | .slice elems spare => uptoBulkAll elems + uptoBulkAll spare + 1
  | .agg parts => uptoBulkAll parts + 1
  | .iface _ d => uptoBulk d + 1
  | .map entries => uptoBulkEntries entries + 1
  | .held _ => 1
def uptoBulkAll {H : Type} : List (DataW H) → Nat
  | [] => 0
  | d :: r => uptoBulk d + uptoBulkAll r
def uptoBulkEntries {H : Type} : List (Lit × DataW H) → Nat
  | [] => 0
  | x :: r => uptoBulkEntry x + uptoBulkEntries r
def uptoBulkEntry {H : Type} : Lit × DataW H → Nat
  | (.string bytes, d) => bytes.length + uptoBulk d + 1
  | (_, d) => uptoBulk d + 1
 end
def uptoSmall : (H : Type) → List (DataW H) → Bool := fun _ ds => decide (uptoBulkAll ds ≤ 1048576)
def OpenSpec.upto (s : _root_.Go.ChangeSpec) : _root_.Go.OpenSpec := { _root_.Go.OpenSpec.ofChange s with cond := some uptoSmall }

/-- 'stagepostlaw08.BloomNames', WHERE WHAT IT READS IS OF BULK AT MOST 1048576: true; the input reads as it did. -/
def bloomNamesUptoRow : OpenClaim := { program := "ytlpdihcgdgkkbaa", sum := "e3b442c127392691b293099a1c1dab81314d8c9a4ca4a99beee6bbfe682415c4", func := "stagepost/stagepostlaw08.BloomNames", spec := "bloomNames", apart := false, narrowed := true }
def BloomNamesUptoSaid : Prop := bloomNamesUptoRow.holds Try.pinned (OpenSpec.upto bloomNamesSpec)

/-- 'stagepostlaw08.BloomFound', WHERE WHAT IT READS IS OF BULK AT MOST 1048576: true; the input reads as it did. -/
def bloomFoundUptoRow : OpenClaim := { program := "ytlpdihcgdgkkbaa", sum := "e3b442c127392691b293099a1c1dab81314d8c9a4ca4a99beee6bbfe682415c4", func := "stagepost/stagepostlaw08.BloomFound", spec := "bloomFound", apart := false, narrowed := true }
def BloomFoundUptoSaid : Prop := bloomFoundUptoRow.holds Try.pinned (OpenSpec.upto bloomFoundSpec)

/-- 'stagepostlaw08.BloomCalls', WHERE WHAT IT READS IS OF BULK AT MOST 1048576: true; the input reads as it did. -/
def bloomCallsUptoRow : OpenClaim := { program := "ytlpdihcgdgkkbaa", sum := "e3b442c127392691b293099a1c1dab81314d8c9a4ca4a99beee6bbfe682415c4", func := "stagepost/stagepostlaw08.BloomCalls", spec := "bloomCalls", apart := false, narrowed := true }
def BloomCallsUptoSaid : Prop := bloomCallsUptoRow.holds Try.pinned (OpenSpec.upto bloomCallsSpec)

/-- 'stagepostlaw08.BloomBoth', WHERE WHAT IT READS IS OF BULK AT MOST 1048576: true; the input reads as it did. -/
def bloomBothUptoRow : OpenClaim := { program := "ytlpdihcgdgkkbaa", sum := "e3b442c127392691b293099a1c1dab81314d8c9a4ca4a99beee6bbfe682415c4", func := "stagepost/stagepostlaw08.BloomBoth", spec := "bloomBoth", apart := false, narrowed := true }
def BloomBothUptoSaid : Prop := bloomBothUptoRow.holds Try.pinned (OpenSpec.upto bloomBothSpec)

/-- 'stagepostlaw25.SimnetNames', WHERE WHAT IT READS IS OF BULK AT MOST 1048576: true; the input reads as it did. -/
def simnetNamesUptoRow : OpenClaim := { program := "ytlpdihcgdgkkbaa", sum := "e3b442c127392691b293099a1c1dab81314d8c9a4ca4a99beee6bbfe682415c4", func := "stagepost/stagepostlaw25.SimnetNames", spec := "simnetNames", unfollowed := true, recurses := true, apart := false, narrowed := true }
def SimnetNamesUptoSaid : Prop := simnetNamesUptoRow.holds Try.pinned (OpenSpec.upto simnetNamesSpec)

/-- 'stagepostlaw25.SimnetOnce', WHERE WHAT IT READS IS OF BULK AT MOST 1048576: true; the input reads as it did. -/
def simnetOnceUptoRow : OpenClaim := { program := "ytlpdihcgdgkkbaa", sum := "e3b442c127392691b293099a1c1dab81314d8c9a4ca4a99beee6bbfe682415c4", func := "stagepost/stagepostlaw25.SimnetOnce", spec := "simnetOnce", unfollowed := true, recurses := true, apart := false, narrowed := true }
def SimnetOnceUptoSaid : Prop := simnetOnceUptoRow.holds Try.pinned (OpenSpec.upto simnetOnceSpec)

/-- 'stagepostlaw21.RangesNames', WHERE WHAT IT READS IS OF BULK AT MOST 1048576: true; the input reads as it did. -/
def rangesNamesUptoRow : OpenClaim := { program := "ytlpdihcgdgkkbaa", sum := "e3b442c127392691b293099a1c1dab81314d8c9a4ca4a99beee6bbfe682415c4", func := "stagepost/stagepostlaw21.RangesNames", spec := "rangesNames", apart := false, narrowed := true }
def RangesNamesUptoSaid : Prop := rangesNamesUptoRow.holds Try.pinned (OpenSpec.upto rangesNamesSpec)

/-- 'stagepostlaw21.RangesMeet', WHERE WHAT IT READS IS OF BULK AT MOST 1048576: true; the input reads as it did. -/
def rangesMeetUptoRow : OpenClaim := { program := "ytlpdihcgdgkkbaa", sum := "e3b442c127392691b293099a1c1dab81314d8c9a4ca4a99beee6bbfe682415c4", func := "stagepost/stagepostlaw21.RangesMeet", spec := "rangesMeet", apart := false, narrowed := true }
def RangesMeetUptoSaid : Prop := rangesMeetUptoRow.holds Try.pinned (OpenSpec.upto rangesMeetSpec)

/-- 'stagepostlaw25.SimnetScript', WHERE WHAT IT READS IS OF BULK AT MOST 1048576: true; the input reads as it did. -/
def simnetScriptUptoRow : OpenClaim := { program := "ytlpdihcgdgkkbaa", sum := "e3b442c127392691b293099a1c1dab81314d8c9a4ca4a99beee6bbfe682415c4", func := "stagepost/stagepostlaw25.SimnetScript", spec := "simnetScript", unfollowed := true, recurses := true, apart := false, narrowed := true }
def SimnetScriptUptoSaid : Prop := simnetScriptUptoRow.holds Try.pinned (OpenSpec.upto simnetScriptSpec)

/-- 'stagepostlaw25.SimnetNil', WHERE WHAT IT READS IS OF BULK AT MOST 1048576: true; the input reads as it did. -/
def simnetNilUptoRow : OpenClaim := { program := "ytlpdihcgdgkkbaa", sum := "e3b442c127392691b293099a1c1dab81314d8c9a4ca4a99beee6bbfe682415c4", func := "stagepost/stagepostlaw25.SimnetNil", spec := "simnetNil", unfollowed := true, recurses := true, apart := false, narrowed := true }
def SimnetNilUptoSaid : Prop := simnetNilUptoRow.holds Try.pinned (OpenSpec.upto simnetNilSpec)

/-- 'stagepostlaw21.RangesPart', WHERE WHAT IT READS IS OF BULK AT MOST 1048576: true; the input reads as it did. -/
def rangesPartUptoRow : OpenClaim := { program := "ytlpdihcgdgkkbaa", sum := "e3b442c127392691b293099a1c1dab81314d8c9a4ca4a99beee6bbfe682415c4", func := "stagepost/stagepostlaw21.RangesPart", spec := "rangesPart", apart := false, narrowed := true }
def RangesPartUptoSaid : Prop := rangesPartUptoRow.holds Try.pinned (OpenSpec.upto rangesPartSpec)

/-- 'stagepostlaw21.RangesCalls', WHERE WHAT IT READS IS OF BULK AT MOST 1048576: true; the input reads as it did. -/
def rangesCallsUptoRow : OpenClaim := { program := "ytlpdihcgdgkkbaa", sum := "e3b442c127392691b293099a1c1dab81314d8c9a4ca4a99beee6bbfe682415c4", func := "stagepost/stagepostlaw21.RangesCalls", spec := "rangesCalls", apart := false, narrowed := true }
def RangesCallsUptoSaid : Prop := rangesCallsUptoRow.holds Try.pinned (OpenSpec.upto rangesCallsSpec)

end Rows
end Go.Proofs.Ytlpdihcgdgkkbaa
