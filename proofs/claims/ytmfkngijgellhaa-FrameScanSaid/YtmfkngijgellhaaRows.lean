/-
  No cell of these rows narrows 'for every input' (looked for: loops, veiled, ifaces, maps, wideKeys, modest, calm, conditions, laid).
  DERIVED. THE GIVEN ROWS OF THIS SEAT. 12 by the template 'for every input the law returns true; each argument reads behind the call as it read before'; 0 by the template 'total and deterministic' (their statements: YtmfkngijgellhaaTotals.lean).
  GIVEN WITH THE SEED: the statements are not yours to turn. If you find one false, say at which input.
  Laid BY PROGRAM, IN A SANDBOX (cutbox-rows.mjs): the forced cells as the released guide's own fill.sh prints them over the translation 9c08e03a536d9deb… (all of the seat's roots in one cut). By AI agents, Wed Nov 11 2026. No macro, syntax, notation, axiom, sorry.
-/
import Derived.Test.YtmfkngijgellhaaChecked
import GoSem.Claim
import GoSem.ClaimJoined
import GoSem.ClaimMapViews
import Derived.JoinedTies
import Derived.KernelRfl
namespace Go.Proofs.Ytmfkngijgellhaa
/- THE CELL 'sum', in the pinned program and in every row, IS THE sha256 OF THE DUMP (.gsa) THAT YtmfkngijgellhaaProg.lean LOADS. Nothing in Lean hashes anything: it is a label: what it is worth is what the hold of that sum in a sandbox is worth. -/
noncomputable def Try.pinned : Pinned := { name := "ytmfkngijgellhaa", sum := "9c08e03a536d9deb496a87131e0a7abdfcabf1a335540e722e9bb260e93aa7b9", checked := Try.checked }
namespace Rows
def none {H : Type} : Left H := { results := [], args := [] }

/-- 'stagepostlaw02.CrcMore': WHATEVER THE INPUT: true; the input reads as it did. -/
def crcMoreSpec : ChangeSpec := { name := "crcMore", fn := fun _ => fun
  | [d1, d2] => { results := [.lit (.bool true)], args := [d1, d2] }
  | _ => none }
def crcMoreRow : OpenClaim := { program := "ytmfkngijgellhaa", sum := "9c08e03a536d9deb496a87131e0a7abdfcabf1a335540e722e9bb260e93aa7b9", func := "stagepost/stagepostlaw02.CrcMore", spec := "crcMore", apart := false }
def CrcMoreSaid : Prop := crcMoreRow.holds Try.pinned (OpenSpec.ofChange crcMoreSpec)

/-- ITS FALSE NEIGHBOUR: 'it returns false'. Refute it at one input. -/
def crcMoreWrong : ChangeSpec := { name := "crcMore", fn := fun _ => fun
  | [d1, d2] => { results := [.lit (.bool false)], args := [d1, d2] }
  | _ => none }
def CrcMoreWrongFalsely : Prop := crcMoreRow.holds Try.pinned (OpenSpec.ofChange crcMoreWrong)

/-- 'stagepostlaw02.CrcXor': WHATEVER THE INPUT: true; the input reads as it did. -/
def crcXorSpec : ChangeSpec := { name := "crcXor", fn := fun _ => fun
  | [d1, d2, d3] => { results := [.lit (.bool true)], args := [d1, d2, d3] }
  | _ => none }
def crcXorRow : OpenClaim := { program := "ytmfkngijgellhaa", sum := "9c08e03a536d9deb496a87131e0a7abdfcabf1a335540e722e9bb260e93aa7b9", func := "stagepost/stagepostlaw02.CrcXor", spec := "crcXor", apart := false }
def CrcXorSaid : Prop := crcXorRow.holds Try.pinned (OpenSpec.ofChange crcXorSpec)

/-- ITS FALSE NEIGHBOUR: 'it returns false'. Refute it at one input. -/
def crcXorWrong : ChangeSpec := { name := "crcXor", fn := fun _ => fun
  | [d1, d2, d3] => { results := [.lit (.bool false)], args := [d1, d2, d3] }
  | _ => none }
def CrcXorWrongFalsely : Prop := crcXorRow.holds Try.pinned (OpenSpec.ofChange crcXorWrong)

/-- 'stagepostlaw02.CrcSeals': WHATEVER THE INPUT: true; the input reads as it did. -/
def crcSealsSpec : ChangeSpec := { name := "crcSeals", fn := fun _ => fun
  | [d1, d2, d3] => { results := [.lit (.bool true)], args := [d1, d2, d3] }
  | _ => none }
def crcSealsRow : OpenClaim := { program := "ytmfkngijgellhaa", sum := "9c08e03a536d9deb496a87131e0a7abdfcabf1a335540e722e9bb260e93aa7b9", func := "stagepost/stagepostlaw02.CrcSeals", spec := "crcSeals", apart := false }
def CrcSealsSaid : Prop := crcSealsRow.holds Try.pinned (OpenSpec.ofChange crcSealsSpec)

/-- ITS FALSE NEIGHBOUR: 'it returns false'. Refute it at one input. -/
def crcSealsWrong : ChangeSpec := { name := "crcSeals", fn := fun _ => fun
  | [d1, d2, d3] => { results := [.lit (.bool false)], args := [d1, d2, d3] }
  | _ => none }
def CrcSealsWrongFalsely : Prop := crcSealsRow.holds Try.pinned (OpenSpec.ofChange crcSealsWrong)

/-- 'stagepostlaw02.CrcNames': WHATEVER THE INPUT: true; the input reads as it did. -/
def crcNamesSpec : ChangeSpec := { name := "crcNames", fn := fun _ => fun
  | [] => { results := [.lit (.bool true)], args := [] }
  | _ => none }
def crcNamesRow : OpenClaim := { program := "ytmfkngijgellhaa", sum := "9c08e03a536d9deb496a87131e0a7abdfcabf1a335540e722e9bb260e93aa7b9", func := "stagepost/stagepostlaw02.CrcNames", spec := "crcNames", apart := false }
def CrcNamesSaid : Prop := crcNamesRow.holds Try.pinned (OpenSpec.ofChange crcNamesSpec)

/-- ITS FALSE NEIGHBOUR: 'it returns false'. Refute it at one input. -/
def crcNamesWrong : ChangeSpec := { name := "crcNames", fn := fun _ => fun
  | [] => { results := [.lit (.bool false)], args := [] }
  | _ => none }
def CrcNamesWrongFalsely : Prop := crcNamesRow.holds Try.pinned (OpenSpec.ofChange crcNamesWrong)

/-- 'stagepostlaw02.CrcCalls': WHATEVER THE INPUT: true; the input reads as it did. -/
def crcCallsSpec : ChangeSpec := { name := "crcCalls", fn := fun _ => fun
  | [d1, d2, d3, d4] => { results := [.lit (.bool true)], args := [d1, d2, d3, d4] }
  | _ => none }
def crcCallsRow : OpenClaim := { program := "ytmfkngijgellhaa", sum := "9c08e03a536d9deb496a87131e0a7abdfcabf1a335540e722e9bb260e93aa7b9", func := "stagepost/stagepostlaw02.CrcCalls", spec := "crcCalls", apart := false }
def CrcCallsSaid : Prop := crcCallsRow.holds Try.pinned (OpenSpec.ofChange crcCallsSpec)

/-- ITS FALSE NEIGHBOUR: 'it returns false'. Refute it at one input. -/
def crcCallsWrong : ChangeSpec := { name := "crcCalls", fn := fun _ => fun
  | [d1, d2, d3, d4] => { results := [.lit (.bool false)], args := [d1, d2, d3, d4] }
  | _ => none }
def CrcCallsWrongFalsely : Prop := crcCallsRow.holds Try.pinned (OpenSpec.ofChange crcCallsWrong)

/-- 'stagepostlaw02.CrcBurst': WHATEVER THE INPUT: true; the input reads as it did. -/
def crcBurstSpec : ChangeSpec := { name := "crcBurst", fn := fun _ => fun
  | [d1, d2, d3] => { results := [.lit (.bool true)], args := [d1, d2, d3] }
  | _ => none }
def crcBurstRow : OpenClaim := { program := "ytmfkngijgellhaa", sum := "9c08e03a536d9deb496a87131e0a7abdfcabf1a335540e722e9bb260e93aa7b9", func := "stagepost/stagepostlaw02.CrcBurst", spec := "crcBurst", apart := false }
def CrcBurstSaid : Prop := crcBurstRow.holds Try.pinned (OpenSpec.ofChange crcBurstSpec)

/-- ITS FALSE NEIGHBOUR: 'it returns false'. Refute it at one input. -/
def crcBurstWrong : ChangeSpec := { name := "crcBurst", fn := fun _ => fun
  | [d1, d2, d3] => { results := [.lit (.bool false)], args := [d1, d2, d3] }
  | _ => none }
def CrcBurstWrongFalsely : Prop := crcBurstRow.holds Try.pinned (OpenSpec.ofChange crcBurstWrong)

/-- 'stagepostlaw03.FrameCalls': WHATEVER THE INPUT: true; the input reads as it did. -/
def frameCallsSpec : ChangeSpec := { name := "frameCalls", fn := fun _ => fun
  | [d1, d2] => { results := [.lit (.bool true)], args := [d1, d2] }
  | _ => none }
def frameCallsRow : OpenClaim := { program := "ytmfkngijgellhaa", sum := "9c08e03a536d9deb496a87131e0a7abdfcabf1a335540e722e9bb260e93aa7b9", func := "stagepost/stagepostlaw03.FrameCalls", spec := "frameCalls", apart := false }
def FrameCallsSaid : Prop := frameCallsRow.holds Try.pinned (OpenSpec.ofChange frameCallsSpec)

/-- ITS FALSE NEIGHBOUR: 'it returns false'. Refute it at one input. -/
def frameCallsWrong : ChangeSpec := { name := "frameCalls", fn := fun _ => fun
  | [d1, d2] => { results := [.lit (.bool false)], args := [d1, d2] }
  | _ => none }
def FrameCallsWrongFalsely : Prop := frameCallsRow.holds Try.pinned (OpenSpec.ofChange frameCallsWrong)

/-- 'stagepostlaw03.FrameNames': WHATEVER THE INPUT: true; the input reads as it did. -/
def frameNamesSpec : ChangeSpec := { name := "frameNames", fn := fun _ => fun
  | [] => { results := [.lit (.bool true)], args := [] }
  | _ => none }
def frameNamesRow : OpenClaim := { program := "ytmfkngijgellhaa", sum := "9c08e03a536d9deb496a87131e0a7abdfcabf1a335540e722e9bb260e93aa7b9", func := "stagepost/stagepostlaw03.FrameNames", spec := "frameNames", apart := false }
def FrameNamesSaid : Prop := frameNamesRow.holds Try.pinned (OpenSpec.ofChange frameNamesSpec)

/-- ITS FALSE NEIGHBOUR: 'it returns false'. Refute it at one input. -/
def frameNamesWrong : ChangeSpec := { name := "frameNames", fn := fun _ => fun
  | [] => { results := [.lit (.bool false)], args := [] }
  | _ => none }
def FrameNamesWrongFalsely : Prop := frameNamesRow.holds Try.pinned (OpenSpec.ofChange frameNamesWrong)

/-- 'stagepostlaw03.FrameTorn': WHATEVER THE INPUT: true; the input reads as it did. -/
def frameTornSpec : ChangeSpec := { name := "frameTorn", fn := fun _ => fun
  | [d1, d2] => { results := [.lit (.bool true)], args := [d1, d2] }
  | _ => none }
def frameTornRow : OpenClaim := { program := "ytmfkngijgellhaa", sum := "9c08e03a536d9deb496a87131e0a7abdfcabf1a335540e722e9bb260e93aa7b9", func := "stagepost/stagepostlaw03.FrameTorn", spec := "frameTorn", apart := false }
def FrameTornSaid : Prop := frameTornRow.holds Try.pinned (OpenSpec.ofChange frameTornSpec)

/-- ITS FALSE NEIGHBOUR: 'it returns false'. Refute it at one input. -/
def frameTornWrong : ChangeSpec := { name := "frameTorn", fn := fun _ => fun
  | [d1, d2] => { results := [.lit (.bool false)], args := [d1, d2] }
  | _ => none }
def FrameTornWrongFalsely : Prop := frameTornRow.holds Try.pinned (OpenSpec.ofChange frameTornWrong)

/-- 'stagepostlaw03.FrameAltered': WHATEVER THE INPUT: true; the input reads as it did. -/
def frameAlteredSpec : ChangeSpec := { name := "frameAltered", fn := fun _ => fun
  | [d1, d2, d3, d4] => { results := [.lit (.bool true)], args := [d1, d2, d3, d4] }
  | _ => none }
def frameAlteredRow : OpenClaim := { program := "ytmfkngijgellhaa", sum := "9c08e03a536d9deb496a87131e0a7abdfcabf1a335540e722e9bb260e93aa7b9", func := "stagepost/stagepostlaw03.FrameAltered", spec := "frameAltered", apart := false }
def FrameAlteredSaid : Prop := frameAlteredRow.holds Try.pinned (OpenSpec.ofChange frameAlteredSpec)

/-- ITS FALSE NEIGHBOUR: 'it returns false'. Refute it at one input. -/
def frameAlteredWrong : ChangeSpec := { name := "frameAltered", fn := fun _ => fun
  | [d1, d2, d3, d4] => { results := [.lit (.bool false)], args := [d1, d2, d3, d4] }
  | _ => none }
def FrameAlteredWrongFalsely : Prop := frameAlteredRow.holds Try.pinned (OpenSpec.ofChange frameAlteredWrong)

/-- 'stagepostlaw03.FrameScan': WHATEVER THE INPUT: true; the input reads as it did. -/
def frameScanSpec : ChangeSpec := { name := "frameScan", fn := fun _ => fun
  | [d1, d2] => { results := [.lit (.bool true)], args := [d1, d2] }
  | _ => none }
def frameScanRow : OpenClaim := { program := "ytmfkngijgellhaa", sum := "9c08e03a536d9deb496a87131e0a7abdfcabf1a335540e722e9bb260e93aa7b9", func := "stagepost/stagepostlaw03.FrameScan", spec := "frameScan", unfollowed := true, recurses := true, apart := false }
def FrameScanSaid : Prop := frameScanRow.holds Try.pinned (OpenSpec.ofChange frameScanSpec)

/-- ITS FALSE NEIGHBOUR: 'it returns false'. Refute it at one input. -/
def frameScanWrong : ChangeSpec := { name := "frameScan", fn := fun _ => fun
  | [d1, d2] => { results := [.lit (.bool false)], args := [d1, d2] }
  | _ => none }
def FrameScanWrongFalsely : Prop := frameScanRow.holds Try.pinned (OpenSpec.ofChange frameScanWrong)

/-- 'stagepostlaw03.FrameKeeps': WHATEVER THE INPUT: true; the input reads as it did. -/
def frameKeepsSpec : ChangeSpec := { name := "frameKeeps", fn := fun _ => fun
  | [d1, d2, d3, d4] => { results := [.lit (.bool true)], args := [d1, d2, d3, d4] }
  | _ => none }
def frameKeepsRow : OpenClaim := { program := "ytmfkngijgellhaa", sum := "9c08e03a536d9deb496a87131e0a7abdfcabf1a335540e722e9bb260e93aa7b9", func := "stagepost/stagepostlaw03.FrameKeeps", spec := "frameKeeps", apart := false }
def FrameKeepsSaid : Prop := frameKeepsRow.holds Try.pinned (OpenSpec.ofChange frameKeepsSpec)

/-- ITS FALSE NEIGHBOUR: 'it returns false'. Refute it at one input. -/
def frameKeepsWrong : ChangeSpec := { name := "frameKeeps", fn := fun _ => fun
  | [d1, d2, d3, d4] => { results := [.lit (.bool false)], args := [d1, d2, d3, d4] }
  | _ => none }
def FrameKeepsWrongFalsely : Prop := frameKeepsRow.holds Try.pinned (OpenSpec.ofChange frameKeepsWrong)

/- THE SECOND FORM. 'bulk': how many values and letters a reading holds, each counted each time it is reached (what is shared counts as often as it is met; a slice's spare places count too). A statement '..UptoSaid' is the law's where the arguments, and the package variables that the reading takes, are together of bulk at most 1048576: NARROWER than '..Said'. Prove '..Said' where nothing that the law and all that it calls make is longer than what came in: it says more and counts as full. Else prove '..UptoSaid'. A law counts once. -/
mutual
def uptoBulk {H : Type} : DataW H → Nat
  | .lit (.string bytes) => bytes.length + 1
  | .lit _ => 1
  | .nil => 1
  | .ptr d => uptoBulk d + 1
  | .slice elems spare => uptoBulkAll elems + uptoBulkAll spare + 1
  | .agg parts => uptoBulkAll parts + 1
  | .iface _ d => uptoBulk d + 1
  | .map entries => uptoBulkEntries entries + 1
  | .held _ => 1
def uptoBulkAll {H : Type} : List (DataW H) → Nat
  | [] => 0
  | d :: r => uptoBulk d + uptoBulkAll r
def uptoBulkEntries {H : Type} : List (Lit × DataW H) → Nat
  | [] => 0
  | x :: r => uptoBulkEntry x + uptoBulkEntries r
def uptoBulkEntry {H : Type} : Lit × DataW H → Nat
  | (.string bytes, d) => bytes.length + uptoBulk d + 1
  | (_, d) => uptoBulk d + 1
 end
def uptoSmall : (H : Type) → List (DataW H) → Bool := fun _ ds => decide (uptoBulkAll ds ≤ 1048576)
def OpenSpec.upto (s : _root_.Go.ChangeSpec) : _root_.Go.OpenSpec := { _root_.Go.OpenSpec.ofChange s with cond := some uptoSmall }

/-- 'stagepostlaw02.CrcMore', WHERE WHAT IT READS IS OF BULK AT MOST 1048576: true; the input reads as it did. -/
def crcMoreUptoRow : OpenClaim := { program := "ytmfkngijgellhaa", sum := "9c08e03a536d9deb496a87131e0a7abdfcabf1a335540e722e9bb260e93aa7b9", func := "stagepost/stagepostlaw02.CrcMore", spec := "crcMore", apart := false, narrowed := true }
def CrcMoreUptoSaid : Prop := crcMoreUptoRow.holds Try.pinned (OpenSpec.upto crcMoreSpec)

/-- 'stagepostlaw02.CrcXor', WHERE WHAT IT READS IS OF BULK AT MOST 1048576: true; the input reads as it did. -/
def crcXorUptoRow : OpenClaim := { program := "ytmfkngijgellhaa", sum := "9c08e03a536d9deb496a87131e0a7abdfcabf1a335540e722e9bb260e93aa7b9", func := "stagepost/stagepostlaw02.CrcXor", spec := "crcXor", apart := false, narrowed := true }
def CrcXorUptoSaid : Prop := crcXorUptoRow.holds Try.pinned (OpenSpec.upto crcXorSpec)

/-- 'stagepostlaw02.CrcSeals', WHERE WHAT IT READS IS OF BULK AT MOST 1048576: true; the input reads as it did. -/
def crcSealsUptoRow : OpenClaim := { program := "ytmfkngijgellhaa", sum := "9c08e03a536d9deb496a87131e0a7abdfcabf1a335540e722e9bb260e93aa7b9", func := "stagepost/stagepostlaw02.CrcSeals", spec := "crcSeals", apart := false, narrowed := true }
def CrcSealsUptoSaid : Prop := crcSealsUptoRow.holds Try.pinned (OpenSpec.upto crcSealsSpec)

/-- 'stagepostlaw02.CrcNames', WHERE WHAT IT READS IS OF BULK AT MOST 1048576: true; the input reads as it did. -/
def crcNamesUptoRow : OpenClaim := { program := "ytmfkngijgellhaa", sum := "9c08e03a536d9deb496a87131e0a7abdfcabf1a335540e722e9bb260e93aa7b9", func := "stagepost/stagepostlaw02.CrcNames", spec := "crcNames", apart := false, narrowed := true }
def CrcNamesUptoSaid : Prop := crcNamesUptoRow.holds Try.pinned (OpenSpec.upto crcNamesSpec)

/-- 'stagepostlaw02.CrcCalls', WHERE WHAT IT READS IS OF BULK AT MOST 1048576: true; the input reads as it did. -/
def crcCallsUptoRow : OpenClaim := { program := "ytmfkngijgellhaa", sum := "9c08e03a536d9deb496a87131e0a7abdfcabf1a335540e722e9bb260e93aa7b9", func := "stagepost/stagepostlaw02.CrcCalls", spec := "crcCalls", apart := false, narrowed := true }
def CrcCallsUptoSaid : Prop := crcCallsUptoRow.holds Try.pinned (OpenSpec.upto crcCallsSpec)

/-- 'stagepostlaw02.CrcBurst', WHERE WHAT IT READS IS OF BULK AT MOST 1048576: true; the input reads as it did. -/
def crcBurstUptoRow : OpenClaim := { program := "ytmfkngijgellhaa", sum := "9c08e03a536d9deb496a87131e0a7abdfcabf1a335540e722e9bb260e93aa7b9", func := "stagepost/stagepostlaw02.CrcBurst", spec := "crcBurst", apart := false, narrowed := true }
def CrcBurstUptoSaid : Prop := crcBurstUptoRow.holds Try.pinned (OpenSpec.upto crcBurstSpec)

/-- 'stagepostlaw03.FrameCalls', WHERE WHAT IT READS IS OF BULK AT MOST 1048576: true; the input reads as it did. -/
def frameCallsUptoRow : OpenClaim := { program := "ytmfkngijgellhaa", sum := "9c08e03a536d9deb496a87131e0a7abdfcabf1a335540e722e9bb260e93aa7b9", func := "stagepost/stagepostlaw03.FrameCalls", spec := "frameCalls", apart := false, narrowed := true }
def FrameCallsUptoSaid : Prop := frameCallsUptoRow.holds Try.pinned (OpenSpec.upto frameCallsSpec)

/-- 'stagepostlaw03.FrameNames', WHERE WHAT IT READS IS OF BULK AT MOST 1048576: true; the input reads as it did. -/
def frameNamesUptoRow : OpenClaim := { program := "ytmfkngijgellhaa", sum := "9c08e03a536d9deb496a87131e0a7abdfcabf1a335540e722e9bb260e93aa7b9", func := "stagepost/stagepostlaw03.FrameNames", spec := "frameNames", apart := false, narrowed := true }
def FrameNamesUptoSaid : Prop := frameNamesUptoRow.holds Try.pinned (OpenSpec.upto frameNamesSpec)

/-- 'stagepostlaw03.FrameTorn', WHERE WHAT IT READS IS OF BULK AT MOST 1048576: true; the input reads as it did. -/
def frameTornUptoRow : OpenClaim := { program := "ytmfkngijgellhaa", sum := "9c08e03a536d9deb496a87131e0a7abdfcabf1a335540e722e9bb260e93aa7b9", func := "stagepost/stagepostlaw03.FrameTorn", spec := "frameTorn", apart := false, narrowed := true }
def FrameTornUptoSaid : Prop := frameTornUptoRow.holds Try.pinned (OpenSpec.upto frameTornSpec)

/-- 'stagepostlaw03.FrameAltered', WHERE WHAT IT READS IS OF BULK AT MOST 1048576: true; the input reads as it did. -/
def frameAlteredUptoRow : OpenClaim := { program := "ytmfkngijgellhaa", sum := "9c08e03a536d9deb496a87131e0a7abdfcabf1a335540e722e9bb260e93aa7b9", func := "stagepost/stagepostlaw03.FrameAltered", spec := "frameAltered", apart := false, narrowed := true }
def FrameAlteredUptoSaid : Prop := frameAlteredUptoRow.holds Try.pinned (OpenSpec.upto frameAlteredSpec)

/-- 'stagepostlaw03.FrameScan', WHERE WHAT IT READS IS OF BULK AT MOST 1048576: true; the input reads as it did. -/
def frameScanUptoRow : OpenClaim := { program := "ytmfkngijgellhaa", sum := "9c08e03a536d9deb496a87131e0a7abdfcabf1a335540e722e9bb260e93aa7b9", func := "stagepost/stagepostlaw03.FrameScan", spec := "frameScan", unfollowed := true, recurses := true, apart := false, narrowed := true }
def FrameScanUptoSaid : Prop := frameScanUptoRow.holds Try.pinned (OpenSpec.upto frameScanSpec)

/-- 'stagepostlaw03.FrameKeeps', WHERE WHAT IT READS IS OF BULK AT MOST 1048576: true; the input reads as it did. -/
def frameKeepsUptoRow : OpenClaim := { program := "ytmfkngijgellhaa", sum := "9c08e03a536d9deb496a87131e0a7abdfcabf1a335540e722e9bb260e93aa7b9", func := "stagepost/stagepostlaw03.FrameKeeps", spec := "frameKeeps", apart := false, narrowed := true }
def FrameKeepsUptoSaid : Prop := frameKeepsUptoRow.holds Try.pinned (OpenSpec.upto frameKeepsSpec)

end Rows
end Go.Proofs.Ytmfkngijgellhaa
