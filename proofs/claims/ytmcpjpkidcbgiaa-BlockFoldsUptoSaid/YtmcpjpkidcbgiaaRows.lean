/-
  No cell of these rows narrows 'for every input' (looked for: loops, veiled, ifaces, maps, wideKeys, modest, calm, conditions, laid).
  DERIVED. THE GIVEN ROWS OF THIS SEAT. 7 by the template 'for every input the law returns true; each argument reads behind the call as it read before'; 0 by the template 'total and deterministic' (their statements: YtmcpjpkidcbgiaaTotals.lean).
  GIVEN WITH THE SEED: the statements are not yours to turn. If you find one false, say at which input.
  Laid BY PROGRAM, IN A SANDBOX (cutbox-rows.mjs): the forced cells as the released guide's own fill.sh prints them over the translation 0f0c0cdf188ad001… (all of the seat's roots in one cut). By AI agents, Wed Nov 11 2026. No macro, syntax, notation, axiom, sorry.
-/
import Derived.Test.YtmcpjpkidcbgiaaChecked
import GoSem.Claim
import GoSem.ClaimJoined
import GoSem.ClaimMapViews
import Derived.JoinedTies
import Derived.KernelRfl
namespace Go.Proofs.Ytmcpjpkidcbgiaa
/- THE CELL 'sum', in the pinned program and in every row, IS THE sha256 OF THE DUMP (.gsa) THAT YtmcpjpkidcbgiaaProg.lean LOADS. Nothing in Lean hashes anything: it is a label: what it is worth is what the hold of that sum in a sandbox is worth. -/
noncomputable def Try.pinned : Pinned := { name := "ytmcpjpkidcbgiaa", sum := "0f0c0cdf188ad0010630786467110b310d5bbec43d8ed81dccbfc5a92e7accbe", checked := Try.checked }
namespace Rows
def none {H : Type} : Left H := { results := [], args := [] }

/-- 'stagepostlaw07.BlockCalls': WHATEVER THE INPUT: true; the input reads as it did. -/
def blockCallsSpec : ChangeSpec := { name := "blockCalls", fn := fun _ => fun
  | [d1, d2] => { results := [.lit (.bool true)], args := [d1, d2] }
  | _ => none }
def blockCallsRow : OpenClaim := { program := "ytmcpjpkidcbgiaa", sum := "0f0c0cdf188ad0010630786467110b310d5bbec43d8ed81dccbfc5a92e7accbe", func := "stagepost/stagepostlaw07.BlockCalls", spec := "blockCalls", unfollowed := true, recurses := true, apart := false }
def BlockCallsSaid : Prop := blockCallsRow.holds Try.pinned (OpenSpec.ofChange blockCallsSpec)

/-- ITS FALSE NEIGHBOUR: 'it returns false'. Refute it at one input. -/
def blockCallsWrong : ChangeSpec := { name := "blockCalls", fn := fun _ => fun
  | [d1, d2] => { results := [.lit (.bool false)], args := [d1, d2] }
  | _ => none }
def BlockCallsWrongFalsely : Prop := blockCallsRow.holds Try.pinned (OpenSpec.ofChange blockCallsWrong)

/-- 'stagepostlaw07.BlockBack': WHATEVER THE INPUT: true; the input reads as it did. -/
def blockBackSpec : ChangeSpec := { name := "blockBack", fn := fun _ => fun
  | [d1, d2] => { results := [.lit (.bool true)], args := [d1, d2] }
  | _ => none }
def blockBackRow : OpenClaim := { program := "ytmcpjpkidcbgiaa", sum := "0f0c0cdf188ad0010630786467110b310d5bbec43d8ed81dccbfc5a92e7accbe", func := "stagepost/stagepostlaw07.BlockBack", spec := "blockBack", unfollowed := true, recurses := true, apart := false }
def BlockBackSaid : Prop := blockBackRow.holds Try.pinned (OpenSpec.ofChange blockBackSpec)

/-- ITS FALSE NEIGHBOUR: 'it returns false'. Refute it at one input. -/
def blockBackWrong : ChangeSpec := { name := "blockBack", fn := fun _ => fun
  | [d1, d2] => { results := [.lit (.bool false)], args := [d1, d2] }
  | _ => none }
def BlockBackWrongFalsely : Prop := blockBackRow.holds Try.pinned (OpenSpec.ofChange blockBackWrong)

/-- 'stagepostlaw07.BlockMerge': WHATEVER THE INPUT: true; the input reads as it did. -/
def blockMergeSpec : ChangeSpec := { name := "blockMerge", fn := fun _ => fun
  | [d] => { results := [.lit (.bool true)], args := [d] }
  | _ => none }
def blockMergeRow : OpenClaim := { program := "ytmcpjpkidcbgiaa", sum := "0f0c0cdf188ad0010630786467110b310d5bbec43d8ed81dccbfc5a92e7accbe", func := "stagepost/stagepostlaw07.BlockMerge", spec := "blockMerge", unfollowed := true, recurses := true, apart := false }
def BlockMergeSaid : Prop := blockMergeRow.holds Try.pinned (OpenSpec.ofChange blockMergeSpec)

/-- ITS FALSE NEIGHBOUR: 'it returns false'. Refute it at one input. -/
def blockMergeWrong : ChangeSpec := { name := "blockMerge", fn := fun _ => fun
  | [d] => { results := [.lit (.bool false)], args := [d] }
  | _ => none }
def BlockMergeWrongFalsely : Prop := blockMergeRow.holds Try.pinned (OpenSpec.ofChange blockMergeWrong)

/-- 'stagepostlaw07.BlockFold': WHATEVER THE INPUT: true; the input reads as it did. -/
def blockFoldSpec : ChangeSpec := { name := "blockFold", fn := fun _ => fun
  | [d1, d2, d3, d4] => { results := [.lit (.bool true)], args := [d1, d2, d3, d4] }
  | _ => none }
def blockFoldRow : OpenClaim := { program := "ytmcpjpkidcbgiaa", sum := "0f0c0cdf188ad0010630786467110b310d5bbec43d8ed81dccbfc5a92e7accbe", func := "stagepost/stagepostlaw07.BlockFold", spec := "blockFold", unfollowed := true, recurses := true, apart := false }
def BlockFoldSaid : Prop := blockFoldRow.holds Try.pinned (OpenSpec.ofChange blockFoldSpec)

/-- ITS FALSE NEIGHBOUR: 'it returns false'. Refute it at one input. -/
def blockFoldWrong : ChangeSpec := { name := "blockFold", fn := fun _ => fun
  | [d1, d2, d3, d4] => { results := [.lit (.bool false)], args := [d1, d2, d3, d4] }
  | _ => none }
def BlockFoldWrongFalsely : Prop := blockFoldRow.holds Try.pinned (OpenSpec.ofChange blockFoldWrong)

/-- 'stagepostlaw07.BlockAsks': WHATEVER THE INPUT: true; the input reads as it did. -/
def blockAsksSpec : ChangeSpec := { name := "blockAsks", fn := fun _ => fun
  | [d1, d2, d3, d4] => { results := [.lit (.bool true)], args := [d1, d2, d3, d4] }
  | _ => none }
def blockAsksRow : OpenClaim := { program := "ytmcpjpkidcbgiaa", sum := "0f0c0cdf188ad0010630786467110b310d5bbec43d8ed81dccbfc5a92e7accbe", func := "stagepost/stagepostlaw07.BlockAsks", spec := "blockAsks", unfollowed := true, recurses := true, apart := false }
def BlockAsksSaid : Prop := blockAsksRow.holds Try.pinned (OpenSpec.ofChange blockAsksSpec)

/-- ITS FALSE NEIGHBOUR: 'it returns false'. Refute it at one input. -/
def blockAsksWrong : ChangeSpec := { name := "blockAsks", fn := fun _ => fun
  | [d1, d2, d3, d4] => { results := [.lit (.bool false)], args := [d1, d2, d3, d4] }
  | _ => none }
def BlockAsksWrongFalsely : Prop := blockAsksRow.holds Try.pinned (OpenSpec.ofChange blockAsksWrong)

/-- 'stagepostlaw07.BlockNames': WHATEVER THE INPUT: true; the input reads as it did. -/
def blockNamesSpec : ChangeSpec := { name := "blockNames", fn := fun _ => fun
  | [] => { results := [.lit (.bool true)], args := [] }
  | _ => none }
def blockNamesRow : OpenClaim := { program := "ytmcpjpkidcbgiaa", sum := "0f0c0cdf188ad0010630786467110b310d5bbec43d8ed81dccbfc5a92e7accbe", func := "stagepost/stagepostlaw07.BlockNames", spec := "blockNames", unfollowed := true, recurses := true, apart := false }
def BlockNamesSaid : Prop := blockNamesRow.holds Try.pinned (OpenSpec.ofChange blockNamesSpec)

/-- ITS FALSE NEIGHBOUR: 'it returns false'. Refute it at one input. -/
def blockNamesWrong : ChangeSpec := { name := "blockNames", fn := fun _ => fun
  | [] => { results := [.lit (.bool false)], args := [] }
  | _ => none }
def BlockNamesWrongFalsely : Prop := blockNamesRow.holds Try.pinned (OpenSpec.ofChange blockNamesWrong)

/-- 'stagepostlaw07.BlockFolds': WHATEVER THE INPUT: true; the input reads as it did. -/
def blockFoldsSpec : ChangeSpec := { name := "blockFolds", fn := fun _ => fun
  | [d1, d2, d3] => { results := [.lit (.bool true)], args := [d1, d2, d3] }
  | _ => none }
def blockFoldsRow : OpenClaim := { program := "ytmcpjpkidcbgiaa", sum := "0f0c0cdf188ad0010630786467110b310d5bbec43d8ed81dccbfc5a92e7accbe", func := "stagepost/stagepostlaw07.BlockFolds", spec := "blockFolds", unfollowed := true, recurses := true, apart := false }
def BlockFoldsSaid : Prop := blockFoldsRow.holds Try.pinned (OpenSpec.ofChange blockFoldsSpec)

/-- ITS FALSE NEIGHBOUR: 'it returns false'. Refute it at one input. -/
def blockFoldsWrong : ChangeSpec := { name := "blockFolds", fn := fun _ => fun
  | [d1, d2, d3] => { results := [.lit (.bool false)], args := [d1, d2, d3] }
  | _ => none }
def BlockFoldsWrongFalsely : Prop := blockFoldsRow.holds Try.pinned (OpenSpec.ofChange blockFoldsWrong)

/- THE SECOND FORM. 'bulk': how many values and letters a reading holds, each counted each time it is reached (what is shared counts as often as it is met; a slice's spare places count too). A statement '..UptoSaid' is the law's where the arguments, and the package variables that the reading takes, are together of bulk at most 1048576: NARROWER than '..Said'. Prove '..Said' where nothing that the law and all that it calls make is longer than what came in: it says more and counts as full. Else prove '..UptoSaid'. A law counts once. -/
mutual
def uptoBulk {H : Type} : DataW H → Nat
  | .lit (.string bytes) => bytes.length + 1
  | .lit _ => 1
  | .nil => 1
  | .ptr d => uptoBulk d + 1
  | .slice elems spare => uptoBulkAll elems + uptoBulkAll spare + 1
  | .agg parts => uptoBulkAll parts + 1
  | .iface _ d => uptoBulk d + 1
  | .map entries => uptoBulkEntries entries + 1
  | .held _ => 1
def uptoBulkAll {H : Type} : List (DataW H) → Nat
  | [] => 0
  | d :: r => uptoBulk d + uptoBulkAll r
def uptoBulkEntries {H : Type} : List (Lit × DataW H) → Nat
  | [] => 0
  | x :: r => uptoBulkEntry x + uptoBulkEntries r
def uptoBulkEntry {H : Type} : Lit × DataW H → Nat
  | (.string bytes, d) => bytes.length + uptoBulk d + 1
  | (_, d) => uptoBulk d + 1
 end
def uptoSmall : (H : Type) → List (DataW H) → Bool := fun _ ds => decide (uptoBulkAll ds ≤ 1048576)
def OpenSpec.upto (s : _root_.Go.ChangeSpec) : _root_.Go.OpenSpec := { _root_.Go.OpenSpec.ofChange s with cond := some uptoSmall }

/-- 'stagepostlaw07.BlockCalls', WHERE WHAT IT READS IS OF BULK AT MOST 1048576: true; the input reads as it did. -/
def blockCallsUptoRow : OpenClaim := { program := "ytmcpjpkidcbgiaa", sum := "0f0c0cdf188ad0010630786467110b310d5bbec43d8ed81dccbfc5a92e7accbe", func := "stagepost/stagepostlaw07.BlockCalls", spec := "blockCalls", unfollowed := true, recurses := true, apart := false, narrowed := true }
def BlockCallsUptoSaid : Prop := blockCallsUptoRow.holds Try.pinned (OpenSpec.upto blockCallsSpec)

/-- 'stagepostlaw07.BlockBack', WHERE WHAT IT READS IS OF BULK AT MOST 1048576: true; the input reads as it did. -/
def blockBackUptoRow : OpenClaim := { program := "ytmcpjpkidcbgiaa", sum := "0f0c0cdf188ad0010630786467110b310d5bbec43d8ed81dccbfc5a92e7accbe", func := "stagepost/stagepostlaw07.BlockBack", spec := "blockBack", unfollowed := true, recurses := true, apart := false, narrowed := true }
def BlockBackUptoSaid : Prop := blockBackUptoRow.holds Try.pinned (OpenSpec.upto blockBackSpec)

/-- 'stagepostlaw07.BlockMerge', WHERE WHAT IT READS IS OF BULK AT MOST 1048576: true; the input reads as it did. -/
def blockMergeUptoRow : OpenClaim := { program := "ytmcpjpkidcbgiaa", sum := "0f0c0cdf188ad0010630786467110b310d5bbec43d8ed81dccbfc5a92e7accbe", func := "stagepost/stagepostlaw07.BlockMerge", spec := "blockMerge", unfollowed := true, recurses := true, apart := false, narrowed := true }
def BlockMergeUptoSaid : Prop := blockMergeUptoRow.holds Try.pinned (OpenSpec.upto blockMergeSpec)

/-- 'stagepostlaw07.BlockFold', WHERE WHAT IT READS IS OF BULK AT MOST 1048576: true; the input reads as it did. -/
def blockFoldUptoRow : OpenClaim := { program := "ytmcpjpkidcbgiaa", sum := "0f0c0cdf188ad0010630786467110b310d5bbec43d8ed81dccbfc5a92e7accbe", func := "stagepost/stagepostlaw07.BlockFold", spec := "blockFold", unfollowed := true, recurses := true, apart := false, narrowed := true }
def BlockFoldUptoSaid : Prop := blockFoldUptoRow.holds Try.pinned (OpenSpec.upto blockFoldSpec)

/-- 'stagepostlaw07.BlockAsks', WHERE WHAT IT READS IS OF BULK AT MOST 1048576: true; the input reads as it did. -/
def blockAsksUptoRow : OpenClaim := { program := "ytmcpjpkidcbgiaa", sum := "0f0c0cdf188ad0010630786467110b310d5bbec43d8ed81dccbfc5a92e7accbe", func := "stagepost/stagepostlaw07.BlockAsks", spec := "blockAsks", unfollowed := true, recurses := true, apart := false, narrowed := true }
def BlockAsksUptoSaid : Prop := blockAsksUptoRow.holds Try.pinned (OpenSpec.upto blockAsksSpec)

/-- 'stagepostlaw07.BlockNames', WHERE WHAT IT READS IS OF BULK AT MOST 1048576: true; the input reads as it did. -/
def blockNamesUptoRow : OpenClaim := { program := "ytmcpjpkidcbgiaa", sum := "0f0c0cdf188ad0010630786467110b310d5bbec43d8ed81dccbfc5a92e7accbe", func := "stagepost/stagepostlaw07.BlockNames", spec := "blockNames", unfollowed := true, recurses := true, apart := false, narrowed := true }
def BlockNamesUptoSaid : Prop := blockNamesUptoRow.holds Try.pinned (OpenSpec.upto blockNamesSpec)

/-- 'stagepostlaw07.BlockFolds', WHERE WHAT IT READS IS OF BULK AT MOST 1048576: true; the input reads as it did. -/
def blockFoldsUptoRow : OpenClaim := { program := "ytmcpjpkidcbgiaa", sum := "0f0c0cdf188ad0010630786467110b310d5bbec43d8ed81dccbfc5a92e7accbe", func := "stagepost/stagepostlaw07.BlockFolds", spec := "blockFolds", unfollowed := true, recurses := true, apart := false, narrowed := true }
def BlockFoldsUptoSaid : Prop := blockFoldsUptoRow.holds Try.pinned (OpenSpec.upto blockFoldsSpec)

end Rows
end Go.Proofs.Ytmcpjpkidcbgiaa
