/- The law over what comes in. -/
import Derived.Test.YtlpdihcgdgkkbaaBf
import Derived.Test.YtlpdihcgdgkkbaaOstr
namespace Go.Proofs.Ytlpdihcgdgkkbaa
open Go.RowKit Go.St
theorem bloomFound_law (w : World) (x : StrsArg w) (_ : True) (bits : Int) (hb : (Lit.int .i64 bits).wf = true) :
    Calls Try.prog 4 #[.slice x.A x.n x.c, .int .i64 bits] w fun e w' => e = .returned (.bool true) ∧ Below w.heap.size w w' :=
  bloomFound_walk w x.A x.n x.c x.l x.hl x.hc x.hn x.hs x.rd bits (by simpa [Lit.wf, IntKind.min, IntKind.max, IntKind.signed, IntKind.bits] using hb)
end Go.Proofs.Ytlpdihcgdgkkbaa
