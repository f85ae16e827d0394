/- Law: lanes. -/
import Derived.Test.YtjhgbdeadkoegaaLs
import Derived.Test.YtjhgbdeadkoegaaOmem
import Derived.Test.YtjhgbdeadkoegaaOin
namespace Go.Proofs.Ytjhgbdeadkoegaa
open Go.RowKit Go.St
theorem memLanes_law (w : World) (x : IntsArg w) (_ : True) (y : EntsArg w) (_ : True) (a : AskM) (_ : InAsk a) :
    Calls Try.prog 5 #[.slice x.A x.n x.c, .slice y.A y.n y.c, .agg #[.string a.key, .int .i64 a.seq, .string a.fr, .string a.to_, .int .i64 a.lane]] w fun e w' => e = .returned (.bool true) ∧ Below w.heap.size w w' :=
  memLanes_walk w x.A x.n x.c x.l x.hl (by have := x.hc; have := x.hn; omega) x.rd y.A y.n y.c y.l y.hl (by have := y.hc; have := y.hn; omega) y.rd a
end Go.Proofs.Ytjhgbdeadkoegaa
