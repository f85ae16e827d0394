/- Law: whatever comes in, in whatever order, stands in order. -/
import Derived.Test.YtjhgbdeadkoegaaLv
import Derived.Test.YtjhgbdeadkoegaaOen
namespace Go.Proofs.Ytjhgbdeadkoegaa
open Go.RowKit Go.St
theorem memOrder_law (w : World) (y : EntsArg w) (_ : True) (o : Int) (h : (Lit.int .i64 o).wf = true) :
    Calls Try.prog 3 #[.slice y.A y.n y.c, .int .i64 o] w fun e w' => e = .returned (.bool true) ∧ Below w.heap.size w w' :=
  memOrder_walk w y.A y.n y.c y.l y.hl (by have := y.hc; have := y.hn; omega) y.rd o (wf64e h)
end Go.Proofs.Ytjhgbdeadkoegaa
