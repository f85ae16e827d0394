/- A list of answers that comes in. -/
import Derived.Test.YthigmjcepbgljaaOrw
namespace Go.Proofs.Ythigmjcepbgljaa
open Go.RowKit Go.ChangeShapes Go.WideShapes Go.ChangeAt Go.St
set_option maxRecDepth 100000
set_option linter.unusedVariables false
set_option linter.unusedSimpArgs false

structure AnsL where
  k : ByteArray
  y : Bool
def ansCells (s : AnsL) : List Value := [.string s.k, .bool s.y]
theorem fits_ans {w : World} {B N d : Nat} {cs : List Value} (ft : fits Try.prog w B N (d + 2) 54 cs) : ∃ s : AnsL, cs = ansCells s := by
  unfold fits at ft
  rw [Try.underlying54] at ft
  obtain ⟨hl, hf⟩ := ft
  have hc : Try.prog.cellsOf 54 = 2 := by kernel_rfl
  have k1 : Try.prog.cellsOf 9 = 1 := by kernel_rfl
  have k2 : Try.prog.cellsOf 4 = 1 := by kernel_rfl
  rw [hc] at hl
  match cs, hl with
  | [c0, c1], _ =>
    have h0 : fits Try.prog w B N (d + 1) 9 (([c0, c1].drop 0).take (Try.prog.cellsOf 9)) := hf 0 _ rfl
    have h1 : fits Try.prog w B N (d + 1) 4 (([c0, c1].drop 1).take (Try.prog.cellsOf 4)) := hf 1 _ rfl
    rw [k1] at h0
    rw [k2] at h1
    unfold fits at h0 h1
    rw [Try.underlying9] at h0
    rw [Try.underlying4] at h1
    obtain ⟨x, e0, f0⟩ := h0
    obtain ⟨y, e1⟩ := h1
    simp at e0 e1
    subst e0 e1
    exact ⟨⟨x, y⟩, rfl⟩
structure AnssArg (w : World) where
  A : Option Addr
  n : Nat
  c : Nat
  l : List AnsL
  hl : l.length = n
  hc : n ≤ c
  hn : c ≤ 140737488351232
  rd : Rd w w.heap.size A (l.map ansCells).flatten
theorem open_anss {w : World} {b0 : Nat} {r : Reach} {v : Value} (hv : Value.okWide Try.prog w r b0 49 v) (ft : fits Try.prog w w.heap.size 140737488351232 8 49 v.cells.toList) :
    ∃ x : AnssArg w, v = .slice x.A x.n x.c ∧ True := by
  obtain ⟨A, n, c, rfl⟩ := okWide_slice Try.underlying49 hv
  unfold fits at ft
  rw [Try.underlying49] at ft
  obtain ⟨A', n', c', e, hlc, hcN, css, hl, hff, hr⟩ := ft
  obtain ⟨rfl, rfl, rfl⟩ : A = A' ∧ n = n' ∧ c = c' := by simpa [Value.cells] using e
  obtain ⟨l, hll, hin⟩ := lift_list (f := ansCells) (p := fun _ => True) css (fun c hc => by
    obtain ⟨s, hs⟩ := fits_ans (d := 5) (hff c hc).2
    exact ⟨s, hs, trivial⟩)
  subst hll
  exact ⟨⟨A, n, c, l, by rw [← hl, List.length_map], hlc, hcN, hr⟩, rfl, trivial⟩
end Go.Proofs.Ythigmjcepbgljaa
