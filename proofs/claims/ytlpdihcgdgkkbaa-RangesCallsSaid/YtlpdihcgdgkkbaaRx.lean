/- The law on any splits over what comes in. -/
import Derived.Test.YtlpdihcgdgkkbaaRw
import Derived.Test.YtlpdihcgdgkkbaaOsp
import Derived.Test.YtlpdihcgdgkkbaaOstw
namespace Go.Proofs.Ytlpdihcgdgkkbaa
open Go.RowKit Go.St
theorem rangesCalls_law (w : World) (x : StrsArg w) (hx : x.c * 16 ≤ 140737488351232) (s : Spn) (_ : InSp s) (t : Spn) (_ : InSp t) (k : ByteArray) (hk : k.size ≤ 140737488351232) (z : Int) (hz : (Lit.int .i64 z).wf = true) :
    Calls Try.prog 14 #[.slice x.A x.n x.c, .agg #[.string s.f, .string s.t], .agg #[.string t.f, .string t.t], .string k, .int .i64 z] w fun e w' => e = .returned (.bool true) ∧ Below w.heap.size w w' :=
  rangesCalls_walk w x.A x.n x.c x.l x.hl x.hc hx x.rd (s.f, s.t) (t.f, t.t) k hk z (by simpa [Lit.wf, IntKind.min, IntKind.max, IntKind.signed, IntKind.bits] using hz)
end Go.Proofs.Ytlpdihcgdgkkbaa
