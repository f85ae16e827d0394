/- A call of a clock that comes in; a list of them. -/
import Derived.Test.YthijpcbblmcfiaaOs
namespace Go.Proofs.Ythijpcbblmcfiaa
open Go.RowKit Go.ChangeShapes Go.WideShapes Go.ChangeAt Go.St

structure ActL where
  k : Int
  wl : Int
  s : Stp
def InA (a : ActL) : Prop := (-9223372036854775808 ≤ a.k ∧ a.k ≤ 9223372036854775807) ∧ (-9223372036854775808 ≤ a.wl ∧ a.wl ≤ 9223372036854775807) ∧ InS a.s
def actCells (a : ActL) : List Value := [.int .i64 a.k, .int .i64 a.wl, .int .i64 a.s.wall, .int .i32 a.s.logic, .int .i32 a.s.tag]

theorem fits_act {w : World} {B N d : Nat} {cs : List Value} (ft : fits Try.prog w B N (d + 3) 45 cs) : ∃ a : ActL, cs = actCells a ∧ InA a := by
  unfold fits at ft
  rw [Try.underlying45] at ft
  obtain ⟨hl, hf⟩ := ft
  have hc : Try.prog.cellsOf 45 = 5 := by kernel_rfl
  have k2 : Try.prog.cellsOf 2 = 1 := by kernel_rfl
  have k3 : Try.prog.cellsOf 3 = 1 := by kernel_rfl
  have k23 : Try.prog.cellsOf 23 = 3 := by kernel_rfl
  rw [hc] at hl
  match cs, hl with
  | [c0, c1, c2, c3, c4], _ =>
    have h0 : fits Try.prog w B N (d + 2) 3 (([c0, c1, c2, c3, c4].drop 0).take (Try.prog.cellsOf 3)) := hf 0 _ rfl
    have h1 : fits Try.prog w B N (d + 2) 2 (([c0, c1, c2, c3, c4].drop 1).take (Try.prog.cellsOf 2)) := hf 1 _ rfl
    have h2 : fits Try.prog w B N (d + 2) 23 (([c0, c1, c2, c3, c4].drop 2).take (Try.prog.cellsOf 23)) := hf 2 _ rfl
    rw [k3] at h0
    rw [k2] at h1
    rw [k23] at h2
    unfold fits at h0 h1
    rw [Try.underlying3] at h0
    rw [Try.underlying2] at h1
    obtain ⟨x, e0, f0⟩ := h0
    obtain ⟨y, e1, f1⟩ := h1
    obtain ⟨s, e2, f2⟩ := fits_stamp h2
    simp at e0 e1 e2
    obtain ⟨rfl, rfl, rfl⟩ := e2
    subst e0 e1
    exact ⟨⟨x, y, s⟩, rfl, wf64 f0, wf64 f1, f2⟩

theorem open_act {w : World} {B N b0 : Nat} {r : Reach} {v : Value} (hv : Value.okWide Try.prog w r b0 45 v) (ft : fits Try.prog w B N 8 45 v.cells.toList) :
    ∃ a : ActL, v = .agg #[.int .i64 a.k, .int .i64 a.wl, .int .i64 a.s.wall, .int .i32 a.s.logic, .int .i32 a.s.tag] ∧ InA a := by
  obtain ⟨cs, rfl, hsz⟩ := okWide_struct Try.underlying45 hv
  obtain ⟨a, e, h⟩ := fits_act ft
  refine ⟨a, ?_, h⟩
  obtain ⟨l⟩ := cs
  simp only [Value.cells] at e
  rw [e]
  rfl

/-- A list of calls that comes in: where it lies, what it holds. -/
structure ActsArg (w : World) where
  A : Option Addr
  n : Nat
  c : Nat
  l : List ActL
  hl : l.length = n
  hc : n ≤ c
  hn : c ≤ 140737488351232
  hin : ∀ a ∈ l, InA a
  rd : Rd w w.heap.size A (l.map actCells).flatten

theorem open_acts {w : World} {b0 : Nat} {r : Reach} {v : Value} (hv : Value.okWide Try.prog w r b0 40 v) (ft : fits Try.prog w w.heap.size 140737488351232 8 40 v.cells.toList) :
    ∃ x : ActsArg w, v = .slice x.A x.n x.c ∧ True := by
  obtain ⟨A, n, c, rfl⟩ := okWide_slice Try.underlying40 hv
  unfold fits at ft
  rw [Try.underlying40] at ft
  obtain ⟨A', n', c', e, hlc, hcN, css, hl, hf, hr⟩ := ft
  obtain ⟨rfl, rfl, rfl⟩ : A = A' ∧ n = n' ∧ c = c' := by simpa [Value.cells] using e
  obtain ⟨l, hll, hin⟩ := lift_list (f := actCells) (p := InA) css (fun c hc => fits_act (d := 4) (hf c hc).2)
  refine ⟨⟨A, n, c, l, by rw [← hl, hll, List.length_map], hlc, hcN, hin, ?_⟩, rfl, trivial⟩
  rw [← hll]
  exact hr
end Go.Proofs.Ythijpcbblmcfiaa
