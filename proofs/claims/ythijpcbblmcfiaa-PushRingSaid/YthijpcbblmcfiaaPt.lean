/- The walk of PushRing, as the law wants it. -/
import Derived.Test.YthijpcbblmcfiaaPs
namespace Go.Proofs.Ythijpcbblmcfiaa
set_option linter.unusedVariables false
open Go.RowKit Go.St
theorem pushRing_law (w : World) (x : StsArg w) (_h : True) (y : PrsArg w) (_h2 : True) (now : Int) (_hn : (Lit.int .i64 now).wf = true) (ex : Int) (_he : (Lit.int .i64 ex).wf = true) :
    Calls Try.prog 11 #[.slice x.A x.n x.c, .slice y.A y.n y.c, .int .i64 now, .int .i64 ex] w fun e w' => e = .returned (.bool true) ∧ Below w.heap.size w w' :=
  pushRing_walk w x.A x.n x.c x.l x.hl x.rd y.A y.n y.c y.l y.hl y.hin y.rd now ex
end Go.Proofs.Ythijpcbblmcfiaa
