/- The walk of SimnetScript, as the law wants it. -/
import Derived.Test.YtlpdihcgdgkkbaaNg
namespace Go.Proofs.Ytlpdihcgdgkkbaa
open Go.RowKit Go.St
set_option linter.unusedVariables false
theorem simnetScript_law (w : World) (a0 : Int) (w0 : (Lit.int .i64 a0).wf = true) (x1 : AnsArg w) (y1 : True) (a2 : Int) (w2 : (Lit.int .i64 a2).wf = true) : Calls Try.prog 11 #[.int .i64 a0, .slice x1.A x1.n x1.c, .int .i64 a2] w fun e w' => e = .returned (.bool true) ∧ Below w.heap.size w w' :=
  simnetScript_walk w a0 x1.A x1.n x1.c x1.l x1.hl x1.hc x1.hn x1.hin x1.rd a2 (wf64n w2)
end Go.Proofs.Ytlpdihcgdgkkbaa
