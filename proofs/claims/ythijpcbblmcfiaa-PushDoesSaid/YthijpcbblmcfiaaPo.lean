/- The law on what verbs ask for, over what comes in. -/
import Derived.Test.YthijpcbblmcfiaaPn
import Derived.Test.YthijpcbblmcfiaaOrec
namespace Go.Proofs.Ythijpcbblmcfiaa
open Go.RowKit Go.St
theorem pushDoes_law (w : World) (r : Rec) (hr : InR w r) (reads : Bool) (m : Stp) (_ : InS m) (g : Stp) (_ : InS g) (now : Int) (_ : (Lit.int .i64 now).wf = true) (ex : Int) (_ : (Lit.int .i64 ex).wf = true) :
    Calls Try.prog 12 #[r.v, .bool reads, .agg #[.int .i64 m.wall, .int .i32 m.logic, .int .i32 m.tag], .agg #[.int .i64 g.wall, .int .i32 g.logic, .int .i32 g.tag], .int .i64 now, .int .i64 ex] w fun e w' => e = .returned (.bool true) ∧ Below w.heap.size w w' :=
  pushDoes_walk w r hr.1 hr.2.1 reads m g now ex
end Go.Proofs.Ythijpcbblmcfiaa
