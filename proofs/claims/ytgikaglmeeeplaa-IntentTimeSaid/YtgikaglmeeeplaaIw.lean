/- The walk of IntentTime, as the law wants it. -/
import Derived.Test.YtgikaglmeeeplaaIv
import Derived.Test.YtgikaglmeeeplaaOcase
namespace Go.Proofs.Ytgikaglmeeeplaa
set_option linter.unusedVariables false
open Go.RowKit Go.St
theorem intentTime_law (w : World) (x : Cas) (h : InCas w x) : Calls Try.prog 5 #[x.v] w fun e w' => e = .returned (.bool true) ∧ Below w.heap.size w w' :=
  intentTime_walk w x h
end Go.Proofs.Ytgikaglmeeeplaa
