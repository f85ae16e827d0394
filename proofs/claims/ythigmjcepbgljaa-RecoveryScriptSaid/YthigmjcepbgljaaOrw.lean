/- A record that comes in, with the bound of its keys' bytes. -/
import Derived.Test.YthigmjcepbgljaaOrec
import Derived.Test.YthigmjcepbgljaaOstw
namespace Go.Proofs.Ythigmjcepbgljaa
open Go.RowKit Go.ChangeShapes Go.WideShapes Go.ChangeAt Go.St
set_option maxRecDepth 100000
set_option linter.unusedVariables false
set_option linter.unusedSimpArgs false

theorem cap_strs {H : Type} {enc : TypeId × Value → H} {w : World} {fuel : Nat} {A : Option Addr} {k c : Nat} {d : DataW H} {p : List MemPlace}
    (hf : DataW.trod enc Try.prog w 0 (fun _ => true) true fuel 28 [.slice A k c] = some (d, p)) (hs : ∀ x ∈ DataW.weights Try.prog 28 d, x ≤ 140737488351232) : c * 16 ≤ 140737488351232 := by
  rcases DataW.trod_slice Try.underlying28 hf with ⟨hcs, hx⟩ | ⟨a, len, cap, elems, rest, n, _, hcs, hx, _, hlc, _, hlen, _, hsp, _⟩
  · have e : A = none ∧ k = 0 ∧ c = 0 := by simpa [Value.cells] using hcs
    rw [e.2.2]; decide
  · have e : A = some a ∧ k = len ∧ c = cap := by simpa [Value.cells] using hcs
    have h2 := (hsp rfl).1
    have hd : d = .slice (elems.map (·.1)) (rest.map (·.1)) := by injection hx
    rw [hd] at hs
    have hw : DataW.weights Try.prog 28 (.slice (elems.map (·.1)) (rest.map (·.1))) = ((elems.map (·.1)).length + (rest.map (·.1)).length) * Try.prog.bytesOf 9 :: (DataW.weightsAll Try.prog 9 (elems.map (·.1)) ++ DataW.weightsAll Try.prog 9 (rest.map (·.1))) := by
      rw [DataW.weights, Try.underlying28]
    rw [hw] at hs
    have h3 := hs _ (List.mem_cons_self ..)
    rw [show Try.prog.bytesOf 9 = 16 by kernel_rfl] at h3
    simp only [List.length_map] at h3
    rw [e.2.2]
    omega

theorem open_recW {H : Type} {enc : TypeId × Value → H} {w : World} {b0 fuel : Nat} {r : Reach} {v : Value} {d : DataW H} {p : List MemPlace} (hv : Value.okWide Try.prog w r b0 30 v) (ft : fits Try.prog w w.heap.size 140737488351232 8 30 v.cells.toList)
    (hf : DataW.trod enc Try.prog w 0 (fun _ => true) true fuel 30 v.cells.toList = some (d, p)) (hs : ∀ x ∈ DataW.weights Try.prog 30 d, x ≤ 140737488351232) :
    ∃ s : Rec, v = s.v ∧ InR w s ∧ s.c * 16 ≤ 140737488351232 := by
  obtain ⟨s, hx, hin⟩ := open_rec hv ft
  refine ⟨s, hx, hin, ?_⟩
  subst hx
  obtain ⟨xs, n, _, hx, _, hlen, hfl⟩ := DataW.trod_struct Try.underlying30 hf
  have h3 := hfl 3 _ rfl
  have hk : Try.prog.cellsOf 28 = 1 := by kernel_rfl
  match xs, hlen with
  | [y0, y1, y2, y3, y4, y5], _ =>
    have h4 : DataW.trod enc Try.prog w 0 (fun _ => true) true n 28 [.slice s.A s.n s.c] = some (y3.1, y3.2) := by
      have e : ((s.v.cells.toList.drop 6).take (Try.prog.cellsOf 28)) = [.slice s.A s.n s.c] := by rw [hk]; rfl
      rw [← e]; exact h3
    refine cap_strs h4 (fun x hm => hs x ?_)
    have hd : d = .agg [y0.1, y1.1, y2.1, y3.1, y4.1, y5.1] := by injection hx
    subst hd
    rw [DataW.weights, Try.underlying30]
    exact DataW.weights_mem_each (j := 3) (t := 28) rfl rfl x hm
end Go.Proofs.Ythigmjcepbgljaa
