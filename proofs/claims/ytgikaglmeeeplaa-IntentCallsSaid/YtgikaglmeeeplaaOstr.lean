/- A list of texts that comes in. -/
import Derived.Test.YtgikaglmeeeplaaFrame
namespace Go.Proofs.Ytgikaglmeeeplaa
open Go.RowKit Go.ChangeShapes Go.WideShapes Go.ChangeAt Go.St
set_option maxRecDepth 100000

structure StrsArg (w : World) where
  A : Option Addr
  n : Nat
  c : Nat
  l : List ByteArray
  hl : l.length = n
  hc : n ≤ c
  hn : c ≤ 140737488351232
  hs : ∀ s ∈ l, s.size ≤ 140737488351232
  rd : Rd w w.heap.size A (l.map Value.string)

theorem flat_str (l : List ByteArray) : (l.map fun s => [Value.string s]).flatten = l.map Value.string := by
  induction l with
  | nil => rfl
  | cons c r ih => rw [List.map_cons, List.flatten_cons, ih]; rfl

theorem fits_strs {w : World} {d : Nat} {cs : List Value} (ft : fits Try.prog w w.heap.size 140737488351232 (d + 2) 31 cs) :
    ∃ x : StrsArg w, cs = [.slice x.A x.n x.c] := by
  unfold fits at ft
  rw [Try.underlying31] at ft
  obtain ⟨A, n, c, rfl, hlc, hcN, css, hl, hf, hr⟩ := ft
  obtain ⟨l, hll, hin⟩ := lift_list (f := fun s => [Value.string s]) (p := fun s => s.size ≤ 140737488351232) css (fun c hc => by
    have h := (hf c hc).2
    unfold fits at h
    rw [Try.underlying9] at h
    exact h)
  rw [hll, flat_str] at hr
  exact ⟨⟨A, n, c, l, by rw [← hl, hll, List.length_map], hlc, hcN, hin, hr⟩, rfl⟩

theorem open_strs {w : World} {b0 : Nat} {r : Reach} {v : Value} (hv : Value.okWide Try.prog w r b0 31 v) (ft : fits Try.prog w w.heap.size 140737488351232 8 31 v.cells.toList) :
    ∃ x : StrsArg w, v = .slice x.A x.n x.c ∧ True := by
  obtain ⟨A, n, c, rfl⟩ := okWide_slice Try.underlying31 hv
  obtain ⟨x, e⟩ := fits_strs ft
  refine ⟨x, ?_, trivial⟩
  simpa [Value.cells] using e
end Go.Proofs.Ytgikaglmeeeplaa
