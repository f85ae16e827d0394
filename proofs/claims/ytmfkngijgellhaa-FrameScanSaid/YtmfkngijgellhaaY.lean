/- What opens an argument that is a list of lists of bytes. -/
import Derived.Test.YtmfkngijgellhaaV
namespace Go.Proofs.Ytmfkngijgellhaa
open Go.RowKit Go.St Go.ChangeShapes Go.WideShapes Go.ChangeAt
set_option linter.unusedVariables false

theorem open_rows38 {w : World} {b : Nat} {v : Value} (hval : Value.okWide Try.prog w .any b 38 v) (h : fits Try.prog w w.heap.size 140737488351232 8 38 v.cells.toList) : ∃ x, x = v ∧ RowsArg w 140737488351232 x := by
  obtain ⟨x, hx, hr⟩ := open_rows (d := 5) (by omega) (okWide_slice Try.underlying38 hval) h
  exact ⟨x, hx.symm, hr⟩
end Go.Proofs.Ytmfkngijgellhaa
