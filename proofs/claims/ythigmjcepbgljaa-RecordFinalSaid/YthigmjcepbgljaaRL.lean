/- The law on what stays so for ever, over what comes in. -/
import Derived.Test.YthigmjcepbgljaaRH
namespace Go.Proofs.Ythigmjcepbgljaa
open Go.RowKit Go.ChangeShapes Go.WideShapes Go.ChangeAt Go.St
set_option maxRecDepth 100000
theorem open_txn {w : World} {B N b0 : Nat} {r : Reach} {v : Value} (hv : Value.okWide Try.prog w r b0 24 v) (ft : fits Try.prog w B N 8 24 v.cells.toList) :
    ∃ s : Int × Int, v = .agg #[.int .i32 s.1, .int .i32 s.2] ∧ True := by
  obtain ⟨cs, rfl, hsz⟩ := okWide_struct Try.underlying24 hv
  obtain ⟨x, y, e⟩ := fits_txn ft
  refine ⟨(x, y), ?_, trivial⟩
  obtain ⟨l⟩ := cs
  simp only [Value.cells] at e
  rw [e]
theorem recordFinal_law (w : World) (t : Int × Int) (_ : True) (wall : Int) (_ : (Lit.int .i64 wall).wf = true) (x : StepsArg w) (hx : ∀ s ∈ x.l, s.c * 16 ≤ 140737488351232) :
    Calls Try.prog 10 #[.agg #[.int .i32 t.1, .int .i32 t.2], .int .i64 wall, .slice x.A x.n x.c] w fun e w' => e = .returned (.bool true) ∧ Below w.heap.size w w' :=
  recordFinal_walk w t.1 t.2 wall x.A x.n x.c x.l x.hl x.hc x.hn (fun a ha => ⟨x.hin a ha, hx a ha⟩) x.rd
end Go.Proofs.Ythigmjcepbgljaa
