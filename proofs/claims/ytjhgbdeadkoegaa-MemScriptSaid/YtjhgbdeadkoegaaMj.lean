/- Law: whatever is done to a memtable. -/
import Derived.Test.YtjhgbdeadkoegaaMi
import Derived.Test.YtjhgbdeadkoegaaOmem
import Derived.Test.YtjhgbdeadkoegaaOin
namespace Go.Proofs.Ytjhgbdeadkoegaa
open Go.RowKit Go.ChangeShapes Go.WideShapes Go.ChangeAt Go.St
set_option linter.unusedVariables false
set_option linter.unusedSimpArgs false
set_option maxRecDepth 100000

/-- A list of questions: where it lies, what it holds. -/
structure AsksArg (w : World) where
  A : Option Addr
  n : Nat
  c : Nat
  l : List AskM
  hl : l.length = n
  hc : n ≤ c
  hn : c ≤ 140737488351232
  hin : ∀ a ∈ l, InAsk a
  rd : Rd w w.heap.size A (asv l)
theorem open_asks {w : World} {b0 : Nat} {r : Reach} {v : Value} (hv : Value.okWide Try.prog w r b0 52 v) (ft : fits Try.prog w w.heap.size 140737488351232 8 52 v.cells.toList) :
    ∃ x : AsksArg w, v = .slice x.A x.n x.c ∧ True := by
  obtain ⟨A, n, c, rfl⟩ := okWide_slice Try.underlying52 hv
  unfold fits at ft
  rw [Try.underlying52] at ft
  obtain ⟨A', n', c', e, hlc, hcN, css, hl, hf, hr⟩ := ft
  obtain ⟨rfl, rfl, rfl⟩ : A = A' ∧ n = n' ∧ c = c' := by simpa [Value.cells] using e
  obtain ⟨l, hll, hin⟩ := lift_list (f := AskM.c) (p := InAsk) css (fun c hc => fits_ask (d := 4) (hf c hc).2)
  refine ⟨⟨A, n, c, l, by rw [← hl, hll, List.length_map], hlc, hcN, hin, ?_⟩, rfl, trivial⟩
  unfold asv
  rw [← hll]
  exact hr
theorem memScript_law (w : World) (x : IntsArg w) (_ : True) (y : EntsArg w) (_ : True) (z : AsksArg w) (_ : True) (o : Int) (h : (Lit.int .i64 o).wf = true) :
    Calls Try.prog 7 #[.slice x.A x.n x.c, .slice y.A y.n y.c, .slice z.A z.n z.c, .int .i64 o] w fun e w' => e = .returned (.bool true) ∧ Below w.heap.size w w' :=
  memScript_walk w x.A x.n x.c x.l x.hl (by have := x.hc; have := x.hn; omega) x.rd y.A y.n y.c y.l y.hl (by have := y.hc; have := y.hn; omega) y.rd z.A z.n z.c z.l z.hl (by have := z.hc; have := z.hn; omega) z.rd o (wf64e h)
end Go.Proofs.Ytjhgbdeadkoegaa
