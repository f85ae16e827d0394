/- The walk of IntentWrites, as the law wants it. -/
import Derived.Test.YtgikaglmeeeplaaIl
namespace Go.Proofs.Ytgikaglmeeeplaa
set_option linter.unusedVariables false
open Go.RowKit Go.St
theorem intentWrites_law (w : World) (x : Cas) (h : InCas w x) : Calls Try.prog 3 #[x.v] w fun e w' => e = .returned (.bool true) ∧ Below w.heap.size w w' :=
  intentWrites_walk w x h
end Go.Proofs.Ytgikaglmeeeplaa
