/- The law of two spans over what comes in. -/
import Derived.Test.YtlpdihcgdgkkbaaRk
import Derived.Test.YtlpdihcgdgkkbaaOsp
namespace Go.Proofs.Ytlpdihcgdgkkbaa
open Go.RowKit Go.St
theorem rangesMeet_law (w : World) (a : Spn) (_ : InSp a) (b : Spn) (_ : InSp b) (k : ByteArray) (hk : k.size ≤ 140737488351232) :
    Calls Try.prog 10 #[.agg #[.string a.f, .string a.t], .agg #[.string b.f, .string b.t], .string k] w fun e w' => e = .returned (.bool true) ∧ Below w.heap.size w w' :=
  rangesMeet_walk w a.f a.t b.f b.t k hk
end Go.Proofs.Ytlpdihcgdgkkbaa
