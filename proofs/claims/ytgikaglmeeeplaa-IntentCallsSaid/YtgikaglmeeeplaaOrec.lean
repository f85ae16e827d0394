/- A record that comes in. -/
import Derived.Test.YtgikaglmeeeplaaOs
import Derived.Test.YtgikaglmeeeplaaOstr
import Derived.Test.YtgikaglmeeeplaaPc
namespace Go.Proofs.Ytgikaglmeeeplaa
open Go.RowKit Go.ChangeShapes Go.WideShapes Go.ChangeAt Go.St
set_option linter.unusedVariables false
set_option linter.unusedSimpArgs false
set_option maxRecDepth 100000

def InR (w : World) (r : Rec) : Prop := r.l.length = r.n ∧ Rd w w.heap.size r.A (sv r.l) ∧ InS r.at_ ∧ InS r.pu ∧ (∀ s ∈ r.l, s.size ≤ 140737488351232) ∧ r.n ≤ r.c ∧ (0 ≤ r.st ∧ r.st ≤ 255) ∧ (-9223372036854775808 ≤ r.beat ∧ r.beat ≤ 9223372036854775807)

theorem fits_txn {w : World} {B N d : Nat} {cs : List Value} (ft : fits Try.prog w B N (d + 2) 27 cs) : ∃ x y : Int, cs = [.int .i32 x, .int .i32 y] := by
  unfold fits at ft
  rw [Try.underlying27] at ft
  obtain ⟨hl, hf⟩ := ft
  have hc : Try.prog.cellsOf 27 = 2 := by kernel_rfl
  have k2 : Try.prog.cellsOf 21 = 1 := by kernel_rfl
  rw [hc] at hl
  match cs, hl with
  | [c0, c1], _ =>
    have h0 : fits Try.prog w B N (d + 1) 21 (([c0, c1].drop 0).take (Try.prog.cellsOf 21)) := hf 0 _ rfl
    have h1 : fits Try.prog w B N (d + 1) 21 (([c0, c1].drop 1).take (Try.prog.cellsOf 21)) := hf 1 _ rfl
    rw [k2] at h0 h1
    unfold fits at h0 h1
    rw [Try.underlying21] at h0 h1
    obtain ⟨x, e0, f0⟩ := h0
    obtain ⟨y, e1, f1⟩ := h1
    simp at e0 e1
    subst e0 e1
    exact ⟨x, y, rfl⟩

theorem fits_rec {w : World} {d : Nat} {cs : List Value} (ft : fits Try.prog w w.heap.size 140737488351232 (d + 3) 33 cs) : ∃ r : Rec, cs = r.cells ∧ InR w r := by
  unfold fits at ft
  rw [Try.underlying33] at ft
  obtain ⟨hl, hf⟩ := ft
  have hc : Try.prog.cellsOf 33 = 11 := by kernel_rfl
  have k1 : Try.prog.cellsOf 27 = 2 := by kernel_rfl
  have k2 : Try.prog.cellsOf 30 = 1 := by kernel_rfl
  have k3 : Try.prog.cellsOf 25 = 3 := by kernel_rfl
  have k4 : Try.prog.cellsOf 31 = 1 := by kernel_rfl
  have k5 : Try.prog.cellsOf 2 = 1 := by kernel_rfl
  rw [hc] at hl
  match cs, hl with
  | [c0, c1, c2, c3, c4, c5, c6, c7, c8, c9, c10], _ =>
    have h0 : fits Try.prog w w.heap.size 140737488351232 (d + 2) 27 (([c0, c1, c2, c3, c4, c5, c6, c7, c8, c9, c10].drop 0).take (Try.prog.cellsOf 27)) := hf 0 _ rfl
    have h1 : fits Try.prog w w.heap.size 140737488351232 (d + 2) 30 (([c0, c1, c2, c3, c4, c5, c6, c7, c8, c9, c10].drop 2).take (Try.prog.cellsOf 30)) := hf 1 _ rfl
    have h2 : fits Try.prog w w.heap.size 140737488351232 (d + 2) 25 (([c0, c1, c2, c3, c4, c5, c6, c7, c8, c9, c10].drop 3).take (Try.prog.cellsOf 25)) := hf 2 _ rfl
    have h3 : fits Try.prog w w.heap.size 140737488351232 (d + 2) 31 (([c0, c1, c2, c3, c4, c5, c6, c7, c8, c9, c10].drop 6).take (Try.prog.cellsOf 31)) := hf 3 _ rfl
    have h4 : fits Try.prog w w.heap.size 140737488351232 (d + 2) 2 (([c0, c1, c2, c3, c4, c5, c6, c7, c8, c9, c10].drop 7).take (Try.prog.cellsOf 2)) := hf 4 _ rfl
    have h5 : fits Try.prog w w.heap.size 140737488351232 (d + 2) 25 (([c0, c1, c2, c3, c4, c5, c6, c7, c8, c9, c10].drop 8).take (Try.prog.cellsOf 25)) := hf 5 _ rfl
    rw [k1] at h0
    rw [k2] at h1
    rw [k3] at h2 h5
    rw [k4] at h3
    rw [k5] at h4
    obtain ⟨x, y, e0⟩ := fits_txn h0
    obtain ⟨s2, e2, i2⟩ := fits_stamp h2
    obtain ⟨s5, e5, i5⟩ := fits_stamp h5
    obtain ⟨q, e3⟩ := fits_strs h3
    unfold fits at h1 h4
    rw [Try.underlying30] at h1
    rw [Try.underlying2] at h4
    obtain ⟨z, e1, f1⟩ := h1
    obtain ⟨b, e4, f4⟩ := h4
    simp at e0 e1 e2 e3 e4 e5
    obtain ⟨rfl, rfl⟩ := e0
    obtain ⟨rfl, rfl, rfl⟩ := e2
    obtain ⟨rfl, rfl, rfl⟩ := e5
    subst e1 e3 e4
    exact ⟨⟨x, y, z, s2, q.A, q.n, q.c, q.l, b, s5⟩, rfl, q.hl, q.rd, i2, i5, q.hs, q.hc, by simpa [Lit.wf, IntKind.min, IntKind.max, IntKind.signed, IntKind.bits] using f1, wf64 f4⟩

theorem open_rec {w : World} {b0 : Nat} {r : Reach} {v : Value} (hv : Value.okWide Try.prog w r b0 33 v) (ft : fits Try.prog w w.heap.size 140737488351232 8 33 v.cells.toList) :
    ∃ s : Rec, v = s.v ∧ InR w s := by
  obtain ⟨cs, rfl, hsz⟩ := okWide_struct Try.underlying33 hv
  obtain ⟨s, e, h⟩ := fits_rec ft
  refine ⟨s, ?_, h⟩
  obtain ⟨l⟩ := cs
  simp only [Value.cells] at e
  rw [e]; rfl
end Go.Proofs.Ytgikaglmeeeplaa
