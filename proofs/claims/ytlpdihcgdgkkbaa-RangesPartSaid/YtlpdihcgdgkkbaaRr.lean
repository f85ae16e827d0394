/- The law on parts over what comes in. -/
import Derived.Test.YtlpdihcgdgkkbaaRq
import Derived.Test.YtlpdihcgdgkkbaaOsp
import Derived.Test.YtlpdihcgdgkkbaaOstr
namespace Go.Proofs.Ytlpdihcgdgkkbaa
open Go.RowKit Go.St
theorem rangesPart_law (w : World) (x : StrsArg w) (_ : True) (s : Spn) (_ : InSp s) (k : ByteArray) (_ : k.size ≤ 140737488351232) (nodes : Int) (hn : (Lit.int .i64 nodes).wf = true) :
    Calls Try.prog 13 #[.slice x.A x.n x.c, .agg #[.string s.f, .string s.t], .string k, .int .i64 nodes] w fun e w' => e = .returned (.bool true) ∧ Below w.heap.size w w' :=
  rangesPart_walk w x.A x.n x.c x.l x.hl (by have := x.hn; have := x.hc; omega) x.rd s.f s.t k nodes (by simpa [Lit.wf, IntKind.min, IntKind.max, IntKind.signed, IntKind.bits] using hn)
end Go.Proofs.Ytlpdihcgdgkkbaa
