/- The walk of SimnetOnce, as the law wants it. -/
import Derived.Test.YtlpdihcgdgkkbaaNj
namespace Go.Proofs.Ytlpdihcgdgkkbaa
open Go.RowKit Go.St
set_option linter.unusedVariables false
theorem simnetOnce_law (w : World) (a0 : Int) (w0 : (Lit.int .i64 a0).wf = true) (x1 : AnsArg w) (y1 : True) : Calls Try.prog 8 #[.int .i64 a0, .slice x1.A x1.n x1.c] w fun e w' => e = .returned (.bool true) ∧ Below w.heap.size w w' :=
  simnetOnce_walk w a0 (wf64n w0) x1.A x1.n x1.c x1.l x1.hl x1.hc x1.hn x1.hin x1.rd
end Go.Proofs.Ytlpdihcgdgkkbaa
