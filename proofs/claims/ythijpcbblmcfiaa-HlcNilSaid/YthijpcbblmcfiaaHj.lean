/- The law on clocks that nobody made, over what comes in. -/
import Derived.Test.YthijpcbblmcfiaaHi
import Derived.Test.YthijpcbblmcfiaaOa
namespace Go.Proofs.Ythijpcbblmcfiaa
open Go.RowKit Go.St
theorem hlcNil_law (w : World) (a : ActL) (_ : InA a) : Calls Try.prog 7 #[.agg #[.int .i64 a.k, .int .i64 a.wl, .int .i64 a.s.wall, .int .i32 a.s.logic, .int .i32 a.s.tag]] w fun e w' => e = .returned (.bool true) ∧ Below w.heap.size w w' :=
  hlcNil_walk w a.k a.wl a.s
end Go.Proofs.Ythijpcbblmcfiaa
