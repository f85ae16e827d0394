/- A list of texts that comes in, with its bytes' bound. -/
import Derived.Test.YthigmjcepbgljaaOstr
namespace Go.Proofs.Ythigmjcepbgljaa
open Go.RowKit Go.ChangeShapes Go.WideShapes Go.ChangeAt Go.St
set_option maxRecDepth 100000
set_option linter.unusedVariables false

theorem open_strsW {H : Type} {enc : TypeId × Value → H} {w : World} {b0 fuel : Nat} {r : Reach} {v : Value} {d : DataW H} {p : List MemPlace} (hv : Value.okWide Try.prog w r b0 28 v) (ft : fits Try.prog w w.heap.size 140737488351232 8 28 v.cells.toList)
    (hf : DataW.trod enc Try.prog w 0 (fun _ => true) true fuel 28 v.cells.toList = some (d, p)) (hs : ∀ x ∈ DataW.weights Try.prog 28 d, x ≤ 140737488351232) :
    ∃ x : StrsArg w, v = .slice x.A x.n x.c ∧ x.c * 16 ≤ 140737488351232 := by
  obtain ⟨x, hx, -⟩ := open_strs hv ft
  refine ⟨x, hx, ?_⟩
  subst hx
  rcases DataW.trod_slice Try.underlying28 hf with ⟨hcs, hx⟩ | ⟨a, len, cap, elems, rest, n, _, hcs, hx, _, hlc, _, hlen, _, hsp, _⟩
  · have e : x.A = none ∧ x.n = 0 ∧ x.c = 0 := by simpa [Value.cells] using hcs
    rw [e.2.2]; decide
  · have e : x.A = some a ∧ x.n = len ∧ x.c = cap := by simpa [Value.cells] using hcs
    have h2 := (hsp rfl).1
    have hd : d = .slice (elems.map (·.1)) (rest.map (·.1)) := by injection hx
    rw [hd] at hs
    have hw : DataW.weights Try.prog 28 (.slice (elems.map (·.1)) (rest.map (·.1))) = ((elems.map (·.1)).length + (rest.map (·.1)).length) * Try.prog.bytesOf 9 :: (DataW.weightsAll Try.prog 9 (elems.map (·.1)) ++ DataW.weightsAll Try.prog 9 (rest.map (·.1))) := by
      rw [DataW.weights, Try.underlying28]
    rw [hw] at hs
    have h3 := hs _ (List.mem_cons_self ..)
    rw [show Try.prog.bytesOf 9 = 16 by kernel_rfl] at h3
    simp only [List.length_map] at h3
    rw [e.2.2]
    omega
end Go.Proofs.Ythigmjcepbgljaa
