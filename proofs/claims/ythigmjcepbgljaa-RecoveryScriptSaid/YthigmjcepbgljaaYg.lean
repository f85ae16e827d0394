/- The law on a recovery's answers over what comes in. -/
import Derived.Test.YthigmjcepbgljaaYf
import Derived.Test.YthigmjcepbgljaaOrw
import Derived.Test.YthigmjcepbgljaaObs
namespace Go.Proofs.Ythigmjcepbgljaa
open Go.RowKit Go.St
theorem recoveryScript_law (w : World) (r : Rec) (h : InR w r ∧ r.c * 16 ≤ 140737488351232) (x : AnssArg w) (_ : True) (sm : Bool) (y : BoolsArg w) (_ : True) :
    Calls Try.prog 5 #[r.v, .slice x.A x.n x.c, .bool sm, .slice y.A y.n y.c] w fun e w' => e = .returned (.bool true) ∧ Below w.heap.size w w' :=
  recoveryScript_walk w r h.1.1 (by have := h.1.2.2.2.2.2.1; have := h.2; omega) h.1.2.1 x.A x.n x.c x.l x.hl x.rd sm y.A y.n y.c y.l y.hl (by have := y.hc; have := y.hn; omega) y.rd
end Go.Proofs.Ythigmjcepbgljaa
