/- The law on memory apart over what comes in. -/
import Derived.Test.YthigmjcepbgljaaVu
import Derived.Test.YthigmjcepbgljaaOrw
namespace Go.Proofs.Ythigmjcepbgljaa
open Go.RowKit Go.St
theorem recordApart_law (w : World) (r : Rec) (h : InR w r ∧ r.c * 16 ≤ 140737488351232) (s : Stp) (_ : InS s) (x : StrsArg w) (hx : x.c * 16 ≤ 140737488351232) :
    Calls Try.prog 7 #[r.v, .agg #[.int .i64 s.wall, .int .i32 s.logic, .int .i32 s.tag], .slice x.A x.n x.c] w fun e w' => e = .returned (.bool true) ∧ Below w.heap.size w w' :=
  recordApart_walk w r h.1.1 (by have := h.1.2.2.2.2.2.1; have := h.2; omega) h.1.2.1 s x.A x.n x.c x.l x.hl (by have := x.hc; omega) x.rd
end Go.Proofs.Ythigmjcepbgljaa
