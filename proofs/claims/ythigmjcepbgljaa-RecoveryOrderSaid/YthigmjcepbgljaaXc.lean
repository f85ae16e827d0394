/- The law on the order of answers, over what comes in. -/
import Derived.Test.YthigmjcepbgljaaXb
import Derived.Test.YthigmjcepbgljaaOrec
import Derived.Test.YthigmjcepbgljaaObs
namespace Go.Proofs.Ythigmjcepbgljaa
open Go.RowKit Go.St
theorem recoveryOrder_law (w : World) (r : Rec) (h : InR w r) (x : BoolsArg w) (_ : True) (z : IntsArg w) (_ : True) :
    Calls Try.prog 6 #[r.v, .slice x.A x.n x.c, .slice z.A z.n z.c] w fun e w' => e = .returned (.bool true) ∧ Below w.heap.size w w' :=
  recoveryOrder_walk w r h.1 h.2.1 x.A x.n x.c x.l x.hl (by have := x.hc; have := x.hn; omega) x.rd z.A z.n z.c z.l z.hl (by have := z.hc; have := z.hn; omega) z.hs z.rd
end Go.Proofs.Ythigmjcepbgljaa
