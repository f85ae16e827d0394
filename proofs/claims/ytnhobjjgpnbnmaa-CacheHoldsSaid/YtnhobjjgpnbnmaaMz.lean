/- The law on what a cache holds over what comes in. -/
import Derived.Test.YtnhobjjgpnbnmaaMy
namespace Go.Proofs.Ytnhobjjgpnbnmaa
open Go.RowKit Go.St
theorem cacheHolds_law (w : World) (low : Stp) (_ : InS low) (x : AmsArg w) (_ : True) (y : AksArg w) (_ : True) :
    Calls Try.prog 3 #[.agg #[.int .i64 low.wall, .int .i32 low.logic, .int .i32 low.tag], .slice x.A x.n x.c, .slice y.A y.n y.c] w fun e w' => e = .returned (.bool true) ∧ Below w.heap.size w w' :=
  cacheHolds_walk w low x.A x.n x.c x.l x.hl (fun a h => (x.hin a h).1) x.rd y.A y.n y.c y.l y.hl y.rd
end Go.Proofs.Ytnhobjjgpnbnmaa
