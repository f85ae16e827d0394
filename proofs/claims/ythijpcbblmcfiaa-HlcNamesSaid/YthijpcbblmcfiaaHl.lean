/- The chapter's numbers and examples on clocks. -/
import Derived.Test.YthijpcbblmcfiaaHk
namespace Go.Proofs.Ythijpcbblmcfiaa
open Go.RowKit Go.St
theorem hlcNames_law (w : World) : Calls Try.prog 5 #[] w fun e w' => e = .returned (.bool true) ∧ Below w.heap.size w w' := hlcNames_walk w
end Go.Proofs.Ythijpcbblmcfiaa
