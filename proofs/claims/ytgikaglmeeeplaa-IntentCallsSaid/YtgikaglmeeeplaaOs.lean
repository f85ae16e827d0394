/- A stamp that comes in. -/
import Derived.Test.YtgikaglmeeeplaaFrame
import Derived.Test.YtgikaglmeeeplaaHmath
namespace Go.Proofs.Ytgikaglmeeeplaa
open Go.RowKit Go.ChangeShapes Go.WideShapes Go.ChangeAt Go.St
set_option maxRecDepth 100000

theorem wf64 {z : Int} (h : (Lit.int .i64 z).wf = true) : -9223372036854775808 ≤ z ∧ z ≤ 9223372036854775807 := by simpa [Lit.wf, IntKind.min, IntKind.max, IntKind.signed, IntKind.bits] using h
theorem wf32 {z : Int} (h : (Lit.int .i32 z).wf = true) : -2147483648 ≤ z ∧ z ≤ 2147483647 := by simpa [Lit.wf, IntKind.min, IntKind.max, IntKind.signed, IntKind.bits] using h

/-- A stamp's fields lie in their types. -/
def InS (s : Stp) : Prop := (-9223372036854775808 ≤ s.wall ∧ s.wall ≤ 9223372036854775807) ∧ (-2147483648 ≤ s.logic ∧ s.logic ≤ 2147483647) ∧ (-2147483648 ≤ s.tag ∧ s.tag ≤ 2147483647)

theorem fits_stamp {w : World} {B N d : Nat} {cs : List Value} (ft : fits Try.prog w B N (d + 2) 25 cs) : ∃ s : Stp, cs = [.int .i64 s.wall, .int .i32 s.logic, .int .i32 s.tag] ∧ InS s := by
  unfold fits at ft
  rw [Try.underlying25] at ft
  obtain ⟨hl, hf⟩ := ft
  have hc : Try.prog.cellsOf 25 = 3 := by kernel_rfl
  have k2 : Try.prog.cellsOf 2 = 1 := by kernel_rfl
  have k21 : Try.prog.cellsOf 21 = 1 := by kernel_rfl
  rw [hc] at hl
  match cs, hl with
  | [c0, c1, c2], _ =>
    have h0 : fits Try.prog w B N (d + 1) 2 (([c0, c1, c2].drop 0).take (Try.prog.cellsOf 2)) := hf 0 _ rfl
    have h1 : fits Try.prog w B N (d + 1) 21 (([c0, c1, c2].drop 1).take (Try.prog.cellsOf 21)) := hf 1 _ rfl
    have h2 : fits Try.prog w B N (d + 1) 21 (([c0, c1, c2].drop 2).take (Try.prog.cellsOf 21)) := hf 2 _ rfl
    rw [k2] at h0
    rw [k21] at h1 h2
    unfold fits at h0 h1 h2
    rw [Try.underlying2] at h0
    rw [Try.underlying21] at h1 h2
    obtain ⟨x, e0, f0⟩ := h0
    obtain ⟨y, e1, f1⟩ := h1
    obtain ⟨z, e2, f2⟩ := h2
    simp at e0 e1 e2
    subst e0 e1 e2
    exact ⟨⟨x, y, z⟩, rfl, wf64 f0, wf32 f1, wf32 f2⟩

theorem open_stamp {w : World} {B N b0 : Nat} {r : Reach} {v : Value} (hv : Value.okWide Try.prog w r b0 25 v) (ft : fits Try.prog w B N 8 25 v.cells.toList) :
    ∃ s : Stp, v = .agg #[.int .i64 s.wall, .int .i32 s.logic, .int .i32 s.tag] ∧ InS s := by
  obtain ⟨cs, rfl, hsz⟩ := okWide_struct Try.underlying25 hv
  obtain ⟨s, e, h⟩ := fits_stamp ft
  refine ⟨s, ?_, h⟩
  obtain ⟨l⟩ := cs
  simp only [Value.cells] at e
  rw [e]
end Go.Proofs.Ytgikaglmeeeplaa
