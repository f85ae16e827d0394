/- An entry, a question that come in. -/
import Derived.Test.YtjhgbdeadkoegaaOen
import Derived.Test.YtjhgbdeadkoegaaOsp
import Derived.Test.YtjhgbdeadkoegaaLq
namespace Go.Proofs.Ytjhgbdeadkoegaa
open Go.RowKit Go.ChangeShapes Go.WideShapes Go.ChangeAt Go.St
set_option linter.unusedVariables false
set_option linter.unusedSimpArgs false
set_option maxRecDepth 100000

theorem open_ent1 {w : World} {B b0 : Nat} {r : Reach} {v : Value} (hv : Value.okWide Try.prog w r b0 32 v) (ft : fits Try.prog w B 140737488351232 8 32 v.cells.toList) :
    ∃ x : Ent, v = .agg #[.string x.key, .string x.val, .int .i64 x.seq, .bool x.del] ∧ InE 140737488351232 x := by
  obtain ⟨cs, rfl, hsz⟩ := okWide_struct Try.underlying32 hv
  obtain ⟨s, e, h⟩ := fits_ent (d := 6) ft
  refine ⟨s, ?_, h⟩
  obtain ⟨l⟩ := cs
  simp only [Value.cells] at e
  rw [e]
  rfl
theorem fits_ask {w : World} {B d : Nat} {cs : List Value} (ft : fits Try.prog w B 140737488351232 (d + 3) 41 cs) : ∃ a : AskM, cs = a.c ∧ InAsk a := by
  unfold fits at ft
  rw [Try.underlying41] at ft
  obtain ⟨hl, hf⟩ := ft
  have hc : Try.prog.cellsOf 41 = 5 := by kernel_rfl
  have k9 : Try.prog.cellsOf 9 = 1 := by kernel_rfl
  have k3 : Try.prog.cellsOf 3 = 1 := by kernel_rfl
  have k2 : Try.prog.cellsOf 39 = 2 := by kernel_rfl
  rw [hc] at hl
  match cs, hl with
  | [c0, c1, c2, c3, c4], _ =>
    have h0 : fits Try.prog w B 140737488351232 (d + 2) 9 (([c0, c1, c2, c3, c4].drop 0).take (Try.prog.cellsOf 9)) := hf 0 _ rfl
    have h1 : fits Try.prog w B 140737488351232 (d + 2) 3 (([c0, c1, c2, c3, c4].drop 1).take (Try.prog.cellsOf 3)) := hf 1 _ rfl
    have h2 : fits Try.prog w B 140737488351232 (d + 2) 39 (([c0, c1, c2, c3, c4].drop 2).take (Try.prog.cellsOf 39)) := hf 2 _ rfl
    have h3 : fits Try.prog w B 140737488351232 (d + 2) 3 (([c0, c1, c2, c3, c4].drop 4).take (Try.prog.cellsOf 3)) := hf 3 _ rfl
    obtain ⟨s, e2, f2, g2⟩ := fits_span h2
    rw [k9] at h0
    rw [k3] at h1 h3
    rw [k2] at e2
    unfold fits at h0 h1 h3
    rw [Try.underlying9] at h0
    rw [Try.underlying3] at h1 h3
    obtain ⟨x, e0, f0⟩ := h0
    obtain ⟨y, e1, f1⟩ := h1
    obtain ⟨z, e3, f3⟩ := h3
    simp at e0 e1 e2 e3
    obtain ⟨e4, e5⟩ := e2
    subst e0 e1 e3 e4 e5
    exact ⟨⟨x, y, s.f, s.t, z⟩, rfl, f0, f2, g2, wf64e f1, wf64e f3⟩
theorem open_ask {w : World} {B b0 : Nat} {r : Reach} {v : Value} (hv : Value.okWide Try.prog w r b0 41 v) (ft : fits Try.prog w B 140737488351232 8 41 v.cells.toList) :
    ∃ a : AskM, v = .agg #[.string a.key, .int .i64 a.seq, .string a.fr, .string a.to_, .int .i64 a.lane] ∧ InAsk a := by
  obtain ⟨cs, rfl, hsz⟩ := okWide_struct Try.underlying41 hv
  obtain ⟨s, e, h⟩ := fits_ask (d := 5) ft
  refine ⟨s, ?_, h⟩
  obtain ⟨l⟩ := cs
  simp only [Value.cells] at e
  rw [e]
  rfl
theorem memNil_law (w : World) (x : Ent) (_ : InE 140737488351232 x) (a : AskM) (_ : InAsk a) :
    Calls Try.prog 8 #[.agg #[.string x.key, .string x.val, .int .i64 x.seq, .bool x.del], .agg #[.string a.key, .int .i64 a.seq, .string a.fr, .string a.to_, .int .i64 a.lane]] w fun e w' => e = .returned (.bool true) ∧ Below w.heap.size w w' :=
  memNil_walk w x a
end Go.Proofs.Ytjhgbdeadkoegaa
