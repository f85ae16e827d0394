/- The walk of IntentCalls, as the law wants it. -/
import Derived.Test.YtgikaglmeeeplaaJk
import Derived.Test.YtgikaglmeeeplaaOcase
namespace Go.Proofs.Ytgikaglmeeeplaa
set_option linter.unusedVariables false
open Go.RowKit Go.St
theorem intentCalls_law (w : World) (x : Cas) (h : InCas w x) : Calls Try.prog 6 #[x.v] w fun e w' => e = .returned (.bool true) ∧ Below w.heap.size w w' :=
  intentCalls_walk w x h
end Go.Proofs.Ytgikaglmeeeplaa
