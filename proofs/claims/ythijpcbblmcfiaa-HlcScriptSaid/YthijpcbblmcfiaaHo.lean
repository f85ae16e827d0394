/- The law on clocks, call by call, over what comes in. -/
import Derived.Test.YthijpcbblmcfiaaHn
namespace Go.Proofs.Ythijpcbblmcfiaa
open Go.RowKit Go.St
set_option maxRecDepth 100000
theorem hlcScript_law (w : World) (off : Int) (hoff : (Lit.int .i64 off).wf = true) (low : Stp) (_ : InS low) (x : ActsArg w) (_ : True) :
    Calls Try.prog 6 #[.int .i64 off, .agg #[.int .i64 low.wall, .int .i32 low.logic, .int .i32 low.tag], .slice x.A x.n x.c] w fun e w' => e = .returned (.bool true) ∧ Below w.heap.size w w' :=
  hlcScript_walk w off (wf64 hoff) low x.A x.n x.c x.l x.hl x.hc x.hn x.hin x.rd
end Go.Proofs.Ythijpcbblmcfiaa
