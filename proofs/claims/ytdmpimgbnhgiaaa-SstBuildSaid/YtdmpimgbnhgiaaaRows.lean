/-
  No cell of these rows narrows 'for every input' (looked for: loops, veiled, ifaces, maps, wideKeys, modest, calm, conditions, laid).
  DERIVED. THE GIVEN ROWS OF THIS SEAT. 5 by the template 'for every input the law returns true; each argument reads behind the call as it read before'; 0 by the template 'total and deterministic' (their statements: YtdmpimgbnhgiaaaTotals.lean).
  GIVEN WITH THE SEED: the statements are not yours to turn. If you find one false, say at which input.
  Laid BY PROGRAM, IN A SANDBOX (cutbox-rows.mjs): the forced cells as the released guide's own fill.sh prints them over the translation 860bac2eb5297667… (all of the seat's roots in one cut). By AI agents, Wed Nov 11 2026. No macro, syntax, notation, axiom, sorry.
-/
import Derived.Test.YtdmpimgbnhgiaaaChecked
import GoSem.Claim
import GoSem.ClaimJoined
import GoSem.ClaimMapViews
import Derived.JoinedTies
import Derived.KernelRfl
namespace Go.Proofs.Ytdmpimgbnhgiaaa
/- THE CELL 'sum', in the pinned program and in every row, IS THE sha256 OF THE DUMP (.gsa) THAT YtdmpimgbnhgiaaaProg.lean LOADS. Nothing in Lean hashes anything: it is a label: what it is worth is what the hold of that sum in a sandbox is worth. -/
noncomputable def Try.pinned : Pinned := { name := "ytdmpimgbnhgiaaa", sum := "860bac2eb52976676ea9afe549bb91149e32f1a3c8c1ec174d280fcc539d8fbd", checked := Try.checked }
namespace Rows
def none {H : Type} : Left H := { results := [], args := [] }

/-- 'stagepostlaw09.SstBuild': WHATEVER THE INPUT: true; the input reads as it did. -/
def sstBuildSpec : ChangeSpec := { name := "sstBuild", fn := fun _ => fun
  | [d1, d2, d3] => { results := [.lit (.bool true)], args := [d1, d2, d3] }
  | _ => none }
def sstBuildRow : OpenClaim := { program := "ytdmpimgbnhgiaaa", sum := "860bac2eb52976676ea9afe549bb91149e32f1a3c8c1ec174d280fcc539d8fbd", func := "stagepost/stagepostlaw09.SstBuild", spec := "sstBuild", unfollowed := true, recurses := true, apart := false }
def SstBuildSaid : Prop := sstBuildRow.holds Try.pinned (OpenSpec.ofChange sstBuildSpec)

/-- ITS FALSE NEIGHBOUR: 'it returns false'. Refute it at one input. -/
def sstBuildWrong : ChangeSpec := { name := "sstBuild", fn := fun _ => fun
  | [d1, d2, d3] => { results := [.lit (.bool false)], args := [d1, d2, d3] }
  | _ => none }
def SstBuildWrongFalsely : Prop := sstBuildRow.holds Try.pinned (OpenSpec.ofChange sstBuildWrong)

/-- 'stagepostlaw09.SstNames': WHATEVER THE INPUT: true; the input reads as it did. -/
def sstNamesSpec : ChangeSpec := { name := "sstNames", fn := fun _ => fun
  | [] => { results := [.lit (.bool true)], args := [] }
  | _ => none }
def sstNamesRow : OpenClaim := { program := "ytdmpimgbnhgiaaa", sum := "860bac2eb52976676ea9afe549bb91149e32f1a3c8c1ec174d280fcc539d8fbd", func := "stagepost/stagepostlaw09.SstNames", spec := "sstNames", unfollowed := true, recurses := true, apart := false }
def SstNamesSaid : Prop := sstNamesRow.holds Try.pinned (OpenSpec.ofChange sstNamesSpec)

/-- ITS FALSE NEIGHBOUR: 'it returns false'. Refute it at one input. -/
def sstNamesWrong : ChangeSpec := { name := "sstNames", fn := fun _ => fun
  | [] => { results := [.lit (.bool false)], args := [] }
  | _ => none }
def SstNamesWrongFalsely : Prop := sstNamesRow.holds Try.pinned (OpenSpec.ofChange sstNamesWrong)

/-- 'stagepostlaw09.SstNil': WHATEVER THE INPUT: true; the input reads as it did. -/
def sstNilSpec : ChangeSpec := { name := "sstNil", fn := fun _ => fun
  | [d] => { results := [.lit (.bool true)], args := [d] }
  | _ => none }
def sstNilRow : OpenClaim := { program := "ytdmpimgbnhgiaaa", sum := "860bac2eb52976676ea9afe549bb91149e32f1a3c8c1ec174d280fcc539d8fbd", func := "stagepost/stagepostlaw09.SstNil", spec := "sstNil", unfollowed := true, recurses := true, apart := false }
def SstNilSaid : Prop := sstNilRow.holds Try.pinned (OpenSpec.ofChange sstNilSpec)

/-- ITS FALSE NEIGHBOUR: 'it returns false'. Refute it at one input. -/
def sstNilWrong : ChangeSpec := { name := "sstNil", fn := fun _ => fun
  | [d] => { results := [.lit (.bool false)], args := [d] }
  | _ => none }
def SstNilWrongFalsely : Prop := sstNilRow.holds Try.pinned (OpenSpec.ofChange sstNilWrong)

/-- 'stagepostlaw09.SstFinds': WHATEVER THE INPUT: true; the input reads as it did. -/
def sstFindsSpec : ChangeSpec := { name := "sstFinds", fn := fun _ => fun
  | [d1, d2, d3, d4, d5, d6] => { results := [.lit (.bool true)], args := [d1, d2, d3, d4, d5, d6] }
  | _ => none }
def sstFindsRow : OpenClaim := { program := "ytdmpimgbnhgiaaa", sum := "860bac2eb52976676ea9afe549bb91149e32f1a3c8c1ec174d280fcc539d8fbd", func := "stagepost/stagepostlaw09.SstFinds", spec := "sstFinds", unfollowed := true, recurses := true, apart := false }
def SstFindsSaid : Prop := sstFindsRow.holds Try.pinned (OpenSpec.ofChange sstFindsSpec)

/-- ITS FALSE NEIGHBOUR: 'it returns false'. Refute it at one input. -/
def sstFindsWrong : ChangeSpec := { name := "sstFinds", fn := fun _ => fun
  | [d1, d2, d3, d4, d5, d6] => { results := [.lit (.bool false)], args := [d1, d2, d3, d4, d5, d6] }
  | _ => none }
def SstFindsWrongFalsely : Prop := sstFindsRow.holds Try.pinned (OpenSpec.ofChange sstFindsWrong)

/-- 'stagepostlaw09.SstAltered': WHATEVER THE INPUT: true; the input reads as it did. -/
def sstAlteredSpec : ChangeSpec := { name := "sstAltered", fn := fun _ => fun
  | [d1, d2, d3, d4, d5, d6, d7, d8] => { results := [.lit (.bool true)], args := [d1, d2, d3, d4, d5, d6, d7, d8] }
  | _ => none }
def sstAlteredRow : OpenClaim := { program := "ytdmpimgbnhgiaaa", sum := "860bac2eb52976676ea9afe549bb91149e32f1a3c8c1ec174d280fcc539d8fbd", func := "stagepost/stagepostlaw09.SstAltered", spec := "sstAltered", unfollowed := true, recurses := true, apart := false }
def SstAlteredSaid : Prop := sstAlteredRow.holds Try.pinned (OpenSpec.ofChange sstAlteredSpec)

/-- ITS FALSE NEIGHBOUR: 'it returns false'. Refute it at one input. -/
def sstAlteredWrong : ChangeSpec := { name := "sstAltered", fn := fun _ => fun
  | [d1, d2, d3, d4, d5, d6, d7, d8] => { results := [.lit (.bool false)], args := [d1, d2, d3, d4, d5, d6, d7, d8] }
  | _ => none }
def SstAlteredWrongFalsely : Prop := sstAlteredRow.holds Try.pinned (OpenSpec.ofChange sstAlteredWrong)

/- THE SECOND FORM. 'bulk': how many values and letters a reading holds, each counted each time it is reached (what is shared counts as often as it is met; a slice's spare places count too). A statement '..UptoSaid' is the law's where the arguments, and the package variables that the reading takes, are together of bulk at most 1048576: NARROWER than '..Said'. Prove '..Said' where nothing that the law and all that it calls make is longer than what came in: it says more and counts as full. Else prove '..UptoSaid'. A law counts once. -/
mutual
def uptoBulk {H : Type} : DataW H → Nat
  | .lit (.string bytes) => bytes.length + 1
  | .lit _ => 1
  | .nil => 1
  | .ptr d => uptoBulk d + 1
  | .slice elems spare => uptoBulkAll elems + uptoBulkAll spare + 1
  | .agg parts => uptoBulkAll parts + 1
  | .iface _ d => uptoBulk d + 1
  | .map entries => uptoBulkEntries entries + 1
  | .held _ => 1
def uptoBulkAll {H : Type} : List (DataW H) → Nat
  | [] => 0
  | d :: r => uptoBulk d + uptoBulkAll r
def uptoBulkEntries {H : Type} : List (Lit × DataW H) → Nat
  | [] => 0
  | x :: r => uptoBulkEntry x + uptoBulkEntries r
def uptoBulkEntry {H : Type} : Lit × DataW H → Nat
  | (.string bytes, d) => bytes.length + uptoBulk d + 1
  | (_, d) => uptoBulk d + 1
 end
def uptoSmall : (H : Type) → List (DataW H) → Bool := fun _ ds => decide (uptoBulkAll ds ≤ 1048576)
def OpenSpec.upto (s : _root_.Go.ChangeSpec) : _root_.Go.OpenSpec := { _root_.Go.OpenSpec.ofChange s with cond := some uptoSmall }

/-- 'stagepostlaw09.SstBuild', WHERE WHAT IT READS IS OF BULK AT MOST 1048576: true; the input reads as it did. -/
def sstBuildUptoRow : OpenClaim := { program := "ytdmpimgbnhgiaaa", sum := "860bac2eb52976676ea9afe549bb91149e32f1a3c8c1ec174d280fcc539d8fbd", func := "stagepost/stagepostlaw09.SstBuild", spec := "sstBuild", unfollowed := true, recurses := true, apart := false, narrowed := true }
def SstBuildUptoSaid : Prop := sstBuildUptoRow.holds Try.pinned (OpenSpec.upto sstBuildSpec)

/-- 'stagepostlaw09.SstNames', WHERE WHAT IT READS IS OF BULK AT MOST 1048576: true; the input reads as it did. -/
def sstNamesUptoRow : OpenClaim := { program := "ytdmpimgbnhgiaaa", sum := "860bac2eb52976676ea9afe549bb91149e32f1a3c8c1ec174d280fcc539d8fbd", func := "stagepost/stagepostlaw09.SstNames", spec := "sstNames", unfollowed := true, recurses := true, apart := false, narrowed := true }
def SstNamesUptoSaid : Prop := sstNamesUptoRow.holds Try.pinned (OpenSpec.upto sstNamesSpec)

/-- 'stagepostlaw09.SstNil', WHERE WHAT IT READS IS OF BULK AT MOST 1048576: true; the input reads as it did. -/
def sstNilUptoRow : OpenClaim := { program := "ytdmpimgbnhgiaaa", sum := "860bac2eb52976676ea9afe549bb91149e32f1a3c8c1ec174d280fcc539d8fbd", func := "stagepost/stagepostlaw09.SstNil", spec := "sstNil", unfollowed := true, recurses := true, apart := false, narrowed := true }
def SstNilUptoSaid : Prop := sstNilUptoRow.holds Try.pinned (OpenSpec.upto sstNilSpec)

/-- 'stagepostlaw09.SstFinds', WHERE WHAT IT READS IS OF BULK AT MOST 1048576: true; the input reads as it did. -/
def sstFindsUptoRow : OpenClaim := { program := "ytdmpimgbnhgiaaa", sum := "860bac2eb52976676ea9afe549bb91149e32f1a3c8c1ec174d280fcc539d8fbd", func := "stagepost/stagepostlaw09.SstFinds", spec := "sstFinds", unfollowed := true, recurses := true, apart := false, narrowed := true }
def SstFindsUptoSaid : Prop := sstFindsUptoRow.holds Try.pinned (OpenSpec.upto sstFindsSpec)

/-- 'stagepostlaw09.SstAltered', WHERE WHAT IT READS IS OF BULK AT MOST 1048576: true; the input reads as it did. -/
def sstAlteredUptoRow : OpenClaim := { program := "ytdmpimgbnhgiaaa", sum := "860bac2eb52976676ea9afe549bb91149e32f1a3c8c1ec174d280fcc539d8fbd", func := "stagepost/stagepostlaw09.SstAltered", spec := "sstAltered", unfollowed := true, recurses := true, apart := false, narrowed := true }
def SstAlteredUptoSaid : Prop := sstAlteredUptoRow.holds Try.pinned (OpenSpec.upto sstAlteredSpec)

end Rows
end Go.Proofs.Ytdmpimgbnhgiaaa
