/- A list of stamps that comes in; a list of pairs of numbers. -/
import Derived.Test.YthijpcbblmcfiaaOs
namespace Go.Proofs.Ythijpcbblmcfiaa
open Go.RowKit Go.ChangeShapes Go.WideShapes Go.ChangeAt Go.St
set_option maxRecDepth 100000

def stc (s : Stp) : List Value := [.int .i64 s.wall, .int .i32 s.logic, .int .i32 s.tag]
/-- A list of stamps: where it lies, what it holds. -/
structure StsArg (w : World) where
  A : Option Addr
  n : Nat
  c : Nat
  l : List Stp
  hl : l.length = n
  hc : n ≤ c
  hn : c ≤ 140737488351232
  hin : ∀ a ∈ l, InS a
  rd : Rd w w.heap.size A (l.map stc).flatten

theorem open_sts {w : World} {b0 : Nat} {r : Reach} {v : Value} (hv : Value.okWide Try.prog w r b0 64 v) (ft : fits Try.prog w w.heap.size 140737488351232 8 64 v.cells.toList) :
    ∃ x : StsArg w, v = .slice x.A x.n x.c ∧ True := by
  obtain ⟨A, n, c, rfl⟩ := okWide_slice Try.underlying64 hv
  unfold fits at ft
  rw [Try.underlying64] at ft
  obtain ⟨A', n', c', e, hlc, hcN, css, hl, hf, hr⟩ := ft
  obtain ⟨rfl, rfl, rfl⟩ : A = A' ∧ n = n' ∧ c = c' := by simpa [Value.cells] using e
  obtain ⟨l, hll, hin⟩ := lift_list (f := stc) (p := InS) css (fun c hc => fits_stamp (d := 5) (hf c hc).2)
  refine ⟨⟨A, n, c, l, by rw [← hl, hll, List.length_map], hlc, hcN, hin, ?_⟩, rfl, trivial⟩
  rw [← hll]
  exact hr

def prc (p : Int × Int) : List Value := [.int .i64 p.1, .int .i64 p.2]
def InP (p : Int × Int) : Prop := (-9223372036854775808 ≤ p.1 ∧ p.1 ≤ 9223372036854775807) ∧ (-9223372036854775808 ≤ p.2 ∧ p.2 ≤ 9223372036854775807)
theorem fits_pr {w : World} {B N d : Nat} {cs : List Value} (ft : fits Try.prog w B N (d + 2) 67 cs) : ∃ p : Int × Int, cs = prc p ∧ InP p := by
  unfold fits at ft
  rw [Try.underlying67] at ft
  obtain ⟨hl, hf⟩ := ft
  have hc : Try.prog.cellsOf 67 = 2 := by kernel_rfl
  have k3 : Try.prog.cellsOf 3 = 1 := by kernel_rfl
  rw [hc] at hl
  match cs, hl with
  | [c0, c1], _ =>
    have h0 : fits Try.prog w B N (d + 1) 3 (([c0, c1].drop (0 * Try.prog.cellsOf 3)).take (Try.prog.cellsOf 3)) := hf 0 (by omega)
    have h1 : fits Try.prog w B N (d + 1) 3 (([c0, c1].drop (1 * Try.prog.cellsOf 3)).take (Try.prog.cellsOf 3)) := hf 1 (by omega)
    rw [k3] at h0 h1
    unfold fits at h0 h1
    rw [Try.underlying3] at h0 h1
    obtain ⟨x, e0, f0⟩ := h0
    obtain ⟨y, e1, f1⟩ := h1
    simp at e0 e1
    subst e0 e1
    exact ⟨(x, y), rfl, wf64 f0, wf64 f1⟩
/-- A list of pairs: where it lies, what it holds. -/
structure PrsArg (w : World) where
  A : Option Addr
  n : Nat
  c : Nat
  l : List (Int × Int)
  hl : l.length = n
  hc : n ≤ c
  hn : c ≤ 140737488351232
  hin : ∀ a ∈ l, InP a
  rd : Rd w w.heap.size A (l.map prc).flatten
theorem open_prs {w : World} {b0 : Nat} {r : Reach} {v : Value} (hv : Value.okWide Try.prog w r b0 65 v) (ft : fits Try.prog w w.heap.size 140737488351232 8 65 v.cells.toList) :
    ∃ x : PrsArg w, v = .slice x.A x.n x.c ∧ True := by
  obtain ⟨A, n, c, rfl⟩ := okWide_slice Try.underlying65 hv
  unfold fits at ft
  rw [Try.underlying65] at ft
  obtain ⟨A', n', c', e, hlc, hcN, css, hl, hf, hr⟩ := ft
  obtain ⟨rfl, rfl, rfl⟩ : A = A' ∧ n = n' ∧ c = c' := by simpa [Value.cells] using e
  obtain ⟨l, hll, hin⟩ := lift_list (f := prc) (p := InP) css (fun c hc => fits_pr (d := 5) (hf c hc).2)
  refine ⟨⟨A, n, c, l, by rw [← hl, hll, List.length_map], hlc, hcN, hin, ?_⟩, rfl, trivial⟩
  rw [← hll]
  exact hr
end Go.Proofs.Ythijpcbblmcfiaa
