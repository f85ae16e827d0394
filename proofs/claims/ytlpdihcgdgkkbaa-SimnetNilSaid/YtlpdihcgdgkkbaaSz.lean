/- The walk of SimnetNil, as the law wants it. -/
import Derived.Test.YtlpdihcgdgkkbaaSy
import Derived.Test.YtlpdihcgdgkkbaaOan
namespace Go.Proofs.Ytlpdihcgdgkkbaa
set_option linter.unusedVariables false
open Go.RowKit Go.St
theorem simnetNil_law (w : World) (x : ActN) (h : InAn w x) : Calls Try.prog 12 #[.agg #[.int .i64 x.k, .int .i64 x.m, .int .i64 x.n, .slice x.A x.z x.c]] w fun e w' => e = .returned (.bool true) ∧ Below w.heap.size w w' :=
  simnetNil_walk w x.k x.m x.n x.A x.z x.c
end Go.Proofs.Ytlpdihcgdgkkbaa
