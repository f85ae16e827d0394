/- A list of numbers that comes in. -/
import Derived.Test.YtjhgbdeadkoegaaFrame
import Derived.Test.YtjhgbdeadkoegaaNv
namespace Go.Proofs.Ytjhgbdeadkoegaa
open Go.RowKit Go.ChangeShapes Go.WideShapes Go.ChangeAt Go.St
set_option maxRecDepth 100000

structure IntsArg (w : World) where
  A : Option Addr
  n : Nat
  c : Nat
  l : List Int
  hl : l.length = n
  hc : n ≤ c
  hn : c ≤ 140737488351232
  hs : ∀ x ∈ l, (Lit.int .i64 x).wf = true
  rd : Rd w w.heap.size A (nv l)
theorem flat_nv (l : List Int) : (l.map fun s => [Value.int .i64 s]).flatten = nv l := by
  induction l with
  | nil => rfl
  | cons c r ih => rw [List.map_cons, List.flatten_cons, ih]; rfl
theorem fits_ints {w : World} {d : Nat} {cs : List Value} (ft : fits Try.prog w w.heap.size 140737488351232 (d + 2) 29 cs) :
    ∃ x : IntsArg w, cs = [.slice x.A x.n x.c] := by
  unfold fits at ft
  rw [Try.underlying29] at ft
  obtain ⟨A, n, c, rfl, hlc, hcN, css, hl, hf, hr⟩ := ft
  obtain ⟨l, hll, hin⟩ := lift_list (f := fun s => [Value.int .i64 s]) (p := fun x => (Lit.int .i64 x).wf = true) css (fun c hc => by
    have h := (hf c hc).2
    unfold fits at h
    rw [Try.underlying3] at h
    exact h)
  rw [hll, flat_nv] at hr
  exact ⟨⟨A, n, c, l, by rw [← hl, hll, List.length_map], hlc, hcN, hin, hr⟩, rfl⟩
theorem open_ints {w : World} {b0 : Nat} {r : Reach} {v : Value} (hv : Value.okWide Try.prog w r b0 29 v) (ft : fits Try.prog w w.heap.size 140737488351232 8 29 v.cells.toList) :
    ∃ x : IntsArg w, v = .slice x.A x.n x.c ∧ True := by
  obtain ⟨A, n, c, rfl⟩ := okWide_slice Try.underlying29 hv
  obtain ⟨x, e⟩ := fits_ints ft
  exact ⟨x, by simpa [Value.cells] using e, trivial⟩
end Go.Proofs.Ytjhgbdeadkoegaa
