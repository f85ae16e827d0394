/- Entries that come in. -/
import Derived.Test.YtjhgbdeadkoegaaFrame
import Derived.Test.YtjhgbdeadkoegaaEm
namespace Go.Proofs.Ytjhgbdeadkoegaa
open Go.RowKit Go.ChangeShapes Go.WideShapes Go.ChangeAt Go.St
set_option linter.unusedVariables false
set_option linter.unusedSimpArgs false
set_option maxRecDepth 100000

theorem wf64e {z : Int} (h : (Lit.int .i64 z).wf = true) : -9223372036854775808 ≤ z ∧ z ≤ 9223372036854775807 := by simpa [Lit.wf, IntKind.min, IntKind.max, IntKind.signed, IntKind.bits] using h
/-- An entry's fields lie in their types. -/
def InE (N : Nat) (x : Ent) : Prop := x.key.size ≤ N ∧ x.val.size ≤ N ∧ (-9223372036854775808 ≤ x.seq ∧ x.seq ≤ 9223372036854775807)

theorem fits_ent {w : World} {B N d : Nat} {cs : List Value} (ft : fits Try.prog w B N (d + 2) 32 cs) : ∃ x : Ent, cs = x.c ∧ InE N x := by
  unfold fits at ft
  rw [Try.underlying32] at ft
  obtain ⟨hl, hf⟩ := ft
  have hc : Try.prog.cellsOf 32 = 4 := by kernel_rfl
  have k9 : Try.prog.cellsOf 9 = 1 := by kernel_rfl
  have k3 : Try.prog.cellsOf 3 = 1 := by kernel_rfl
  have k4 : Try.prog.cellsOf 4 = 1 := by kernel_rfl
  rw [hc] at hl
  match cs, hl with
  | [c0, c1, c2, c3], _ =>
    have h0 : fits Try.prog w B N (d + 1) 9 (([c0, c1, c2, c3].drop 0).take (Try.prog.cellsOf 9)) := hf 0 _ rfl
    have h1 : fits Try.prog w B N (d + 1) 9 (([c0, c1, c2, c3].drop 1).take (Try.prog.cellsOf 9)) := hf 1 _ rfl
    have h2 : fits Try.prog w B N (d + 1) 3 (([c0, c1, c2, c3].drop 2).take (Try.prog.cellsOf 3)) := hf 2 _ rfl
    have h3 : fits Try.prog w B N (d + 1) 4 (([c0, c1, c2, c3].drop 3).take (Try.prog.cellsOf 4)) := hf 3 _ rfl
    rw [k9] at h0 h1
    rw [k3] at h2
    rw [k4] at h3
    unfold fits at h0 h1 h2 h3
    rw [Try.underlying9] at h0 h1
    rw [Try.underlying3] at h2
    rw [Try.underlying4] at h3
    obtain ⟨x, e0, f0⟩ := h0
    obtain ⟨y, e1, f1⟩ := h1
    obtain ⟨z, e2, f2⟩ := h2
    obtain ⟨b, e3⟩ := h3
    simp at e0 e1 e2 e3
    subst e0 e1 e2 e3
    exact ⟨⟨x, y, z, b⟩, rfl, f0, f1, wf64e f2⟩
/-- A list of entries: where it lies, what it holds. -/
structure EntsArg (w : World) where
  A : Option Addr
  n : Nat
  c : Nat
  l : List Ent
  hl : l.length = n
  hc : n ≤ c
  hn : c ≤ 140737488351232
  hin : ∀ a ∈ l, InE 140737488351232 a
  rd : Rd w w.heap.size A (env l)

theorem open_ents {w : World} {b0 : Nat} {r : Reach} {v : Value} (hv : Value.okWide Try.prog w r b0 22 v) (ft : fits Try.prog w w.heap.size 140737488351232 8 22 v.cells.toList) :
    ∃ x : EntsArg w, v = .slice x.A x.n x.c ∧ True := by
  obtain ⟨A, n, c, rfl⟩ := okWide_slice Try.underlying22 hv
  unfold fits at ft
  rw [Try.underlying22] at ft
  obtain ⟨A', n', c', e, hlc, hcN, css, hl, hf, hr⟩ := ft
  obtain ⟨rfl, rfl, rfl⟩ : A = A' ∧ n = n' ∧ c = c' := by simpa [Value.cells] using e
  obtain ⟨l, hll, hin⟩ := lift_list (f := Ent.c) (p := InE 140737488351232) css (fun c hc => fits_ent (d := 5) (hf c hc).2)
  refine ⟨⟨A, n, c, l, by rw [← hl, hll, List.length_map], hlc, hcN, hin, ?_⟩, rfl, trivial⟩
  unfold env
  rw [← hll]
  exact hr
end Go.Proofs.Ytjhgbdeadkoegaa
