/- A span that comes in. -/
import Derived.Test.YtjhgbdeadkoegaaFrame
namespace Go.Proofs.Ytjhgbdeadkoegaa
open Go.RowKit Go.ChangeShapes Go.WideShapes Go.ChangeAt Go.St
set_option linter.unusedVariables false
set_option linter.unusedSimpArgs false

set_option maxRecDepth 100000
structure Spn where
  f : ByteArray
  t : ByteArray
def InSp (s : Spn) : Prop := s.f.size ≤ 140737488351232 ∧ s.t.size ≤ 140737488351232

theorem fits_span {w : World} {B d : Nat} {cs : List Value} (ft : fits Try.prog w B 140737488351232 (d + 2) 39 cs) : ∃ s : Spn, cs = [.string s.f, .string s.t] ∧ InSp s := by
  unfold fits at ft
  rw [Try.underlying39] at ft
  obtain ⟨hl, hf⟩ := ft
  have hc : Try.prog.cellsOf 39 = 2 := by kernel_rfl
  have k2 : Try.prog.cellsOf 9 = 1 := by kernel_rfl
  rw [hc] at hl
  match cs, hl with
  | [c0, c1], _ =>
    have h0 : fits Try.prog w B 140737488351232 (d + 1) 9 (([c0, c1].drop 0).take (Try.prog.cellsOf 9)) := hf 0 _ rfl
    have h1 : fits Try.prog w B 140737488351232 (d + 1) 9 (([c0, c1].drop 1).take (Try.prog.cellsOf 9)) := hf 1 _ rfl
    rw [k2] at h0 h1
    unfold fits at h0 h1
    rw [Try.underlying9] at h0 h1
    obtain ⟨x, e0, f0⟩ := h0
    obtain ⟨y, e1, f1⟩ := h1
    simp at e0 e1
    subst e0 e1
    exact ⟨⟨x, y⟩, rfl, f0, f1⟩

theorem open_span {w : World} {B b0 : Nat} {r : Reach} {v : Value} (hv : Value.okWide Try.prog w r b0 39 v) (ft : fits Try.prog w B 140737488351232 8 39 v.cells.toList) :
    ∃ s : Spn, v = .agg #[.string s.f, .string s.t] ∧ InSp s := by
  obtain ⟨cs, rfl, hsz⟩ := okWide_struct Try.underlying39 hv
  obtain ⟨s, e, h⟩ := fits_span ft
  refine ⟨s, ?_, h⟩
  obtain ⟨l⟩ := cs
  simp only [Value.cells] at e
  rw [e]
end Go.Proofs.Ytjhgbdeadkoegaa
