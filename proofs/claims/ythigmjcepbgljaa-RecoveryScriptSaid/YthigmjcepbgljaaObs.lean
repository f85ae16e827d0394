/- Lists of bools and of numbers that come in. -/
import Derived.Test.YthigmjcepbgljaaFrame
import Derived.Test.YthigmjcepbgljaaWa
namespace Go.Proofs.Ythigmjcepbgljaa
open Go.RowKit Go.ChangeShapes Go.WideShapes Go.ChangeAt Go.St
set_option maxRecDepth 100000

structure BoolsArg (w : World) where
  A : Option Addr
  n : Nat
  c : Nat
  l : List Bool
  hl : l.length = n
  hc : n ≤ c
  hn : c ≤ 140737488351232
  rd : Rd w w.heap.size A (lv l)
structure IntsArg (w : World) where
  A : Option Addr
  n : Nat
  c : Nat
  l : List Int
  hl : l.length = n
  hc : n ≤ c
  hn : c ≤ 140737488351232
  hs : ∀ x ∈ l, (Lit.int .i64 x).wf = true
  rd : Rd w w.heap.size A (nv l)
theorem flat_lv (l : List Bool) : (l.map fun s => [Value.bool s]).flatten = lv l := by
  induction l with
  | nil => rfl
  | cons c r ih => rw [List.map_cons, List.flatten_cons, ih]; rfl
theorem flat_nv (l : List Int) : (l.map fun s => [Value.int .i64 s]).flatten = nv l := by
  induction l with
  | nil => rfl
  | cons c r ih => rw [List.map_cons, List.flatten_cons, ih]; rfl
theorem fits_bools {w : World} {d : Nat} {cs : List Value} (ft : fits Try.prog w w.heap.size 140737488351232 (d + 2) 46 cs) :
    ∃ x : BoolsArg w, cs = [.slice x.A x.n x.c] := by
  unfold fits at ft
  rw [Try.underlying46] at ft
  obtain ⟨A, n, c, rfl, hlc, hcN, css, hl, hf, hr⟩ := ft
  obtain ⟨l, hll, hin⟩ := lift_list (f := fun s => [Value.bool s]) (p := fun _ => True) css (fun c hc => by
    have h := (hf c hc).2
    unfold fits at h
    rw [Try.underlying4] at h
    obtain ⟨b, hb⟩ := h
    exact ⟨b, hb, trivial⟩)
  rw [hll, flat_lv] at hr
  exact ⟨⟨A, n, c, l, by rw [← hl, hll, List.length_map], hlc, hcN, hr⟩, rfl⟩
theorem fits_ints {w : World} {d : Nat} {cs : List Value} (ft : fits Try.prog w w.heap.size 140737488351232 (d + 2) 31 cs) :
    ∃ x : IntsArg w, cs = [.slice x.A x.n x.c] := by
  unfold fits at ft
  rw [Try.underlying31] at ft
  obtain ⟨A, n, c, rfl, hlc, hcN, css, hl, hf, hr⟩ := ft
  obtain ⟨l, hll, hin⟩ := lift_list (f := fun s => [Value.int .i64 s]) (p := fun x => (Lit.int .i64 x).wf = true) css (fun c hc => by
    have h := (hf c hc).2
    unfold fits at h
    rw [Try.underlying3] at h
    exact h)
  rw [hll, flat_nv] at hr
  exact ⟨⟨A, n, c, l, by rw [← hl, hll, List.length_map], hlc, hcN, hin, hr⟩, rfl⟩
theorem open_bools {w : World} {b0 : Nat} {r : Reach} {v : Value} (hv : Value.okWide Try.prog w r b0 46 v) (ft : fits Try.prog w w.heap.size 140737488351232 8 46 v.cells.toList) :
    ∃ x : BoolsArg w, v = .slice x.A x.n x.c ∧ True := by
  obtain ⟨A, n, c, rfl⟩ := okWide_slice Try.underlying46 hv
  obtain ⟨x, e⟩ := fits_bools ft
  exact ⟨x, by simpa [Value.cells] using e, trivial⟩
theorem open_ints {w : World} {b0 : Nat} {r : Reach} {v : Value} (hv : Value.okWide Try.prog w r b0 31 v) (ft : fits Try.prog w w.heap.size 140737488351232 8 31 v.cells.toList) :
    ∃ x : IntsArg w, v = .slice x.A x.n x.c ∧ True := by
  obtain ⟨A, n, c, rfl⟩ := okWide_slice Try.underlying31 hv
  obtain ⟨x, e⟩ := fits_ints ft
  exact ⟨x, by simpa [Value.cells] using e, trivial⟩
end Go.Proofs.Ythigmjcepbgljaa
