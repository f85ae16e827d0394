/- The law on recoveries that nobody made, over what comes in. -/
import Derived.Test.YthigmjcepbgljaaWh
namespace Go.Proofs.Ythigmjcepbgljaa
open Go.RowKit Go.St
theorem recoveryNil_law (w : World) (key : ByteArray) (_ : key.size ≤ 140737488351232) : Calls Try.prog 3 #[.string key] w fun e w' => e = .returned (.bool true) ∧ Below w.heap.size w w' := recoveryNil_walk w key
end Go.Proofs.Ythigmjcepbgljaa
