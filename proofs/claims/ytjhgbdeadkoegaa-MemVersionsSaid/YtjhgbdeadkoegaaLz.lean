/- Law: a key's versions. -/
import Derived.Test.YtjhgbdeadkoegaaLy
import Derived.Test.YtjhgbdeadkoegaaOmem
namespace Go.Proofs.Ytjhgbdeadkoegaa
open Go.RowKit Go.St
theorem memVersions_law (w : World) (y : EntsArg w) (_ : True) (a : AskM) (ha : InAsk a) (o : Int) (h : (Lit.int .i64 o).wf = true) :
    Calls Try.prog 4 #[.slice y.A y.n y.c, .agg #[.string a.key, .int .i64 a.seq, .string a.fr, .string a.to_, .int .i64 a.lane], .int .i64 o] w fun e w' => e = .returned (.bool true) ∧ Below w.heap.size w w' :=
  memVersions_walk w y.A y.n y.c y.l y.hl (by have := y.hc; have := y.hn; omega) y.rd a ha.2.2.2.1 o (wf64e h)
end Go.Proofs.Ytjhgbdeadkoegaa
