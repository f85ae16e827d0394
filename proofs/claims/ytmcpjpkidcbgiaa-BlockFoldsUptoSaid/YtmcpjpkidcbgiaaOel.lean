/- Lists of entries that come in. -/
import Derived.Test.YtmcpjpkidcbgiaaOen
import Derived.Test.YtmcpjpkidcbgiaaGf
namespace Go.Proofs.Ytmcpjpkidcbgiaa
open Go.RowKit Go.ChangeShapes Go.WideShapes Go.ChangeAt Go.St
set_option linter.unusedVariables false
set_option linter.unusedSimpArgs false
set_option maxRecDepth 100000

theorem fits_ents {w : World} {d : Nat} {cs : List Value} (ft : fits Try.prog w w.heap.size 140737488351232 (d + 3) 22 cs) : ∃ x : EntsArg w, cs = [.slice x.A x.n x.c] := by
  unfold fits at ft
  rw [Try.underlying22] at ft
  obtain ⟨A, n, c, rfl, hlc, hcN, css, hl, hf, hr⟩ := ft
  obtain ⟨l, hll, hin⟩ := lift_list (f := Ent.c) (p := InE 140737488351232) css (fun c hc => fits_ent (d := d) (hf c hc).2)
  refine ⟨⟨A, n, c, l, by rw [← hl, hll, List.length_map], hlc, hcN, hin, ?_⟩, rfl⟩
  unfold env
  rw [← hll]
  exact hr
/-- Lists of entries: where they lie, what they hold. -/
structure EntssArg (w : World) where
  A : Option Addr
  n : Nat
  c : Nat
  vs : List Value
  ls : List (List Ent)
  hv : vs.length = n
  hl : ls.length = n
  hc : n ≤ c
  hn : c ≤ 140737488351232
  hs : ∀ l ∈ ls, l.length ≤ 140737488351232
  rd : Rd w w.heap.size A vs
  lsb : LsB w w.heap.size vs ls

theorem open_entss {w : World} {b0 : Nat} {r : Reach} {v : Value} (hv : Value.okWide Try.prog w r b0 39 v) (ft : fits Try.prog w w.heap.size 140737488351232 8 39 v.cells.toList) :
    ∃ x : EntssArg w, v = .slice x.A x.n x.c ∧ True := by
  obtain ⟨A, n, c, rfl⟩ := okWide_slice Try.underlying39 hv
  unfold fits at ft
  rw [Try.underlying39] at ft
  obtain ⟨A', n', c', e, hlc, hcN, css, hl, hf, hr⟩ := ft
  obtain ⟨rfl, rfl, rfl⟩ : A = A' ∧ n = n' ∧ c = c' := by simpa [Value.cells] using e
  obtain ⟨X, hX, -⟩ := lift_list (f := fun x : EntsArg w => [Value.slice x.A x.n x.c]) (p := fun _ => True) css (fun c hc => by
    obtain ⟨x, hx⟩ := fits_ents (d := 4) (hf c hc).2
    exact ⟨x, hx, trivial⟩)
  have hfl : (X.map fun x : EntsArg w => [Value.slice x.A x.n x.c]).flatten = X.map fun x => Value.slice x.A x.n x.c := by
    clear hX
    induction X with
    | nil => rfl
    | cons x r ih => rw [List.map_cons, List.flatten_cons, ih]; rfl
  rw [hX, hfl] at hr
  refine ⟨⟨A, n, c, X.map fun x => Value.slice x.A x.n x.c, X.map EntsArg.l, by rw [List.length_map, ← hl, hX, List.length_map], by rw [List.length_map, ← hl, hX, List.length_map], hlc, hcN, fun l hl => ?_, hr, fun i l hl => ?_⟩, rfl, trivial⟩
  · obtain ⟨x, -, rfl⟩ := List.mem_map.1 hl
    have := x.hl; have := x.hc; have := x.hn
    omega
  · rw [List.getElem?_map] at hl
    cases hx : X[i]? with
    | none => rw [hx] at hl; cases hl
    | some x =>
      rw [hx] at hl
      injection hl with hl
      subst hl
      exact ⟨x.A, x.c, by rw [List.getElem?_map, hx]; show some (Value.slice x.A x.n x.c) = some (Value.slice x.A x.l.length x.c); rw [x.hl], by rw [x.hl]; exact x.hc, x.rd⟩
end Go.Proofs.Ytmcpjpkidcbgiaa
