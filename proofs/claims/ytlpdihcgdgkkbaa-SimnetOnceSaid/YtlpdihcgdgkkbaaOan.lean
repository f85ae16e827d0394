/- A call of a net that comes in; a list of them. -/
import Derived.Test.YtlpdihcgdgkkbaaSi
import Derived.Test.YtlpdihcgdgkkbaaFrame
namespace Go.Proofs.Ytlpdihcgdgkkbaa
open Go.RowKit Go.ChangeShapes Go.WideShapes Go.ChangeAt Go.St
set_option maxRecDepth 100000
set_option linter.unusedVariables false
set_option linter.unusedSimpArgs false

/-- A call of a net. -/
structure ActN where
  k : Int
  m : Int
  n : Int
  A : Option Addr
  z : Nat
  c : Nat
  bs : List UInt8
def anCells (x : ActN) : List Value := [.int .i64 x.k, .int .i64 x.m, .int .i64 x.n, .slice x.A x.z x.c]
def InAn (w : World) (x : ActN) : Prop := (-9223372036854775808 ≤ x.k ∧ x.k ≤ 9223372036854775807) ∧ (-9223372036854775808 ≤ x.m ∧ x.m ≤ 9223372036854775807) ∧ (-9223372036854775808 ≤ x.n ∧ x.n ≤ 9223372036854775807) ∧ x.bs.length = x.z ∧ x.z ≤ x.c ∧ x.c ≤ 140737488351232 ∧ Rd w w.heap.size x.A (bv x.bs)
theorem wf64n {z : Int} (h : (Lit.int .i64 z).wf = true) : -9223372036854775808 ≤ z ∧ z ≤ 9223372036854775807 := by simpa [Lit.wf, IntKind.min, IntKind.max, IntKind.signed, IntKind.bits] using h
theorem fits_an {w : World} {d : Nat} {cs : List Value} (ft : fits Try.prog w w.heap.size 140737488351232 (d + 3) 61 cs) : ∃ a : ActN, cs = anCells a ∧ InAn w a := by
  unfold fits at ft
  rw [Try.underlying61] at ft
  obtain ⟨hl, hf⟩ := ft
  have hc : Try.prog.cellsOf 61 = 4 := by kernel_rfl
  have k0 : Try.prog.cellsOf 3 = 1 := by kernel_rfl
  have k1 : Try.prog.cellsOf 22 = 1 := by kernel_rfl
  rw [hc] at hl
  match cs, hl with
  | [c0, c1, c2, c3], _ =>
    have h0 : fits Try.prog w w.heap.size 140737488351232 (d + 2) 3 (([c0, c1, c2, c3].drop 0).take (Try.prog.cellsOf 3)) := hf 0 _ rfl
    have h1 : fits Try.prog w w.heap.size 140737488351232 (d + 2) 3 (([c0, c1, c2, c3].drop 1).take (Try.prog.cellsOf 3)) := hf 1 _ rfl
    have h2 : fits Try.prog w w.heap.size 140737488351232 (d + 2) 3 (([c0, c1, c2, c3].drop 2).take (Try.prog.cellsOf 3)) := hf 2 _ rfl
    have h3 : fits Try.prog w w.heap.size 140737488351232 (d + 2) 22 (([c0, c1, c2, c3].drop 3).take (Try.prog.cellsOf 22)) := hf 3 _ rfl
    rw [k0] at h0 h1 h2
    rw [k1] at h3
    have h3' := fits_bytes Try.underlying22 Try.underlying5 h3
    unfold fits at h0 h1 h2
    rw [Try.underlying3] at h0 h1 h2
    obtain ⟨x, e0, f0⟩ := h0
    obtain ⟨y, e1, f1⟩ := h1
    obtain ⟨z, e2, f2⟩ := h2
    obtain ⟨A, n, c, bs, e3, bl, lc, bn, rd⟩ := h3'
    simp at e0 e1 e2 e3
    subst e0 e1 e2 e3
    exact ⟨⟨x, y, z, A, n, c, bs⟩, rfl, wf64n f0, wf64n f1, wf64n f2, bl, lc, bn, rd⟩
theorem open_an {w : World} {b0 : Nat} {r : Reach} {v : Value} (hv : Value.okWide Try.prog w r b0 61 v) (ft : fits Try.prog w w.heap.size 140737488351232 8 61 v.cells.toList) :
    ∃ x : ActN, v = .agg #[.int .i64 x.k, .int .i64 x.m, .int .i64 x.n, .slice x.A x.z x.c] ∧ InAn w x := by
  obtain ⟨cs, rfl, hsz⟩ := okWide_struct Try.underlying61 hv
  obtain ⟨a, e, h⟩ := fits_an ft
  refine ⟨a, ?_, h⟩
  obtain ⟨l⟩ := cs
  simp only [Value.cells] at e
  rw [e]
  rfl
structure AnsArg (w : World) where
  A : Option Addr
  n : Nat
  c : Nat
  l : List ActN
  hl : l.length = n
  hc : n ≤ c
  hn : c ≤ 140737488351232
  hin : ∀ a ∈ l, InAn w a
  rd : Rd w w.heap.size A (l.map anCells).flatten
theorem lift_list {α : Type} {f : α → List Value} {p : α → Prop} : ∀ (css : List (List Value)), (∀ c ∈ css, ∃ s, c = f s ∧ p s) → ∃ l : List α, css = l.map f ∧ ∀ s ∈ l, p s
  | [], _ => ⟨[], rfl, fun _ h => by simp at h⟩
  | c :: r, h => by
    obtain ⟨s, e, hs⟩ := h c (by simp)
    obtain ⟨l, e2, hl⟩ := lift_list r (fun c hc => h c (by simp [hc]))
    refine ⟨s :: l, by rw [e, e2]; rfl, fun t ht => ?_⟩
    rcases List.mem_cons.1 ht with rfl | ht
    · exact hs
    · exact hl t ht
theorem open_ans {w : World} {b0 : Nat} {r : Reach} {v : Value} (hv : Value.okWide Try.prog w r b0 55 v) (ft : fits Try.prog w w.heap.size 140737488351232 8 55 v.cells.toList) :
    ∃ x : AnsArg w, v = .slice x.A x.n x.c ∧ True := by
  obtain ⟨A, n, c, rfl⟩ := okWide_slice Try.underlying55 hv
  unfold fits at ft
  rw [Try.underlying55] at ft
  obtain ⟨A', n', c', e, hlc, hcN, css, hl, hff, hr⟩ := ft
  obtain ⟨rfl, rfl, rfl⟩ : A = A' ∧ n = n' ∧ c = c' := by simpa [Value.cells] using e
  obtain ⟨l, hll, hin⟩ := lift_list (f := anCells) (p := InAn w) css (fun c hc => fits_an (d := 4) (hff c hc).2)
  refine ⟨⟨A, n, c, l, by rw [← hl, hll, List.length_map], hlc, hcN, hin, ?_⟩, rfl, trivial⟩
  rw [← hll]
  exact hr
end Go.Proofs.Ytlpdihcgdgkkbaa
