/- A call of a read cache that comes in; lists of calls and of questions. -/
import Derived.Test.YtnhobjjgpnbnmaaMf
import Derived.Test.YtnhobjjgpnbnmaaOs
import Derived.Test.YtnhobjjgpnbnmaaOsp
namespace Go.Proofs.Ytnhobjjgpnbnmaa
open Go.RowKit Go.ChangeShapes Go.WideShapes Go.ChangeAt Go.St
set_option maxRecDepth 100000
set_option linter.unusedVariables false
set_option linter.unusedSimpArgs false

theorem fits_txn {w : World} {B N d : Nat} {cs : List Value} (ft : fits Try.prog w B N (d + 2) 35 cs) : ∃ x y : Int, cs = [.int .i32 x, .int .i32 y] ∧ (-2147483648 ≤ x ∧ x ≤ 2147483647) ∧ (-2147483648 ≤ y ∧ y ≤ 2147483647) := by
  unfold fits at ft
  rw [Try.underlying35] at ft
  obtain ⟨hl, hf⟩ := ft
  have hc : Try.prog.cellsOf 35 = 2 := by kernel_rfl
  have k2 : Try.prog.cellsOf 21 = 1 := by kernel_rfl
  rw [hc] at hl
  match cs, hl with
  | [c0, c1], _ =>
    have h0 : fits Try.prog w B N (d + 1) 21 (([c0, c1].drop 0).take (Try.prog.cellsOf 21)) := hf 0 _ rfl
    have h1 : fits Try.prog w B N (d + 1) 21 (([c0, c1].drop 1).take (Try.prog.cellsOf 21)) := hf 1 _ rfl
    rw [k2] at h0 h1
    unfold fits at h0 h1
    rw [Try.underlying21] at h0 h1
    obtain ⟨x, e0, f0⟩ := h0
    obtain ⟨y, e1, f1⟩ := h1
    simp at e0 e1
    subst e0 e1
    exact ⟨x, y, rfl, wf32 f0, wf32 f1⟩
def InAm (x : ActM) : Prop := (-9223372036854775808 ≤ x.k ∧ x.k ≤ 9223372036854775807) ∧ InS x.m.a
theorem fits_am {w : World} {B d : Nat} {cs : List Value} (ft : fits Try.prog w B 140737488351232 (d + 3) 37 cs) : ∃ a : ActM, cs = amCells a ∧ InAm a := by
  unfold fits at ft
  rw [Try.underlying37] at ft
  obtain ⟨hl, hf⟩ := ft
  have hc : Try.prog.cellsOf 37 = 8 := by kernel_rfl
  have k0 : Try.prog.cellsOf 3 = 1 := by kernel_rfl
  have k1 : Try.prog.cellsOf 33 = 2 := by kernel_rfl
  have k2 : Try.prog.cellsOf 23 = 3 := by kernel_rfl
  have k3 : Try.prog.cellsOf 35 = 2 := by kernel_rfl
  rw [hc] at hl
  match cs, hl with
  | [c0, c1, c2, c3, c4, c5, c6, c7], _ =>
    have h0 : fits Try.prog w B 140737488351232 (d + 2) 3 (([c0, c1, c2, c3, c4, c5, c6, c7].drop 0).take (Try.prog.cellsOf 3)) := hf 0 _ rfl
    have h1 : fits Try.prog w B 140737488351232 (d + 2) 33 (([c0, c1, c2, c3, c4, c5, c6, c7].drop 1).take (Try.prog.cellsOf 33)) := hf 1 _ rfl
    have h2 : fits Try.prog w B 140737488351232 (d + 2) 23 (([c0, c1, c2, c3, c4, c5, c6, c7].drop 3).take (Try.prog.cellsOf 23)) := hf 2 _ rfl
    have h3 : fits Try.prog w B 140737488351232 (d + 2) 35 (([c0, c1, c2, c3, c4, c5, c6, c7].drop 6).take (Try.prog.cellsOf 35)) := hf 3 _ rfl
    rw [k0] at h0
    rw [k1] at h1
    rw [k2] at h2
    rw [k3] at h3
    unfold fits at h0
    rw [Try.underlying3] at h0
    obtain ⟨x, e0, f0⟩ := h0
    obtain ⟨sp, e1, f1⟩ := fits_span h1
    obtain ⟨s, e2, f2⟩ := fits_stamp h2
    obtain ⟨nd, nu, e3, f3, f4⟩ := fits_txn h3
    simp at e0 e1 e2 e3
    obtain ⟨rfl, rfl⟩ := e1
    obtain ⟨rfl, rfl, rfl⟩ := e2
    obtain ⟨rfl, rfl⟩ := e3
    subst e0
    exact ⟨⟨x, ⟨sp.f, sp.t, s, nd, nu⟩⟩, rfl, wf64 f0, f2⟩
theorem open_am {w : World} {B b0 : Nat} {r : Reach} {v : Value} (hv : Value.okWide Try.prog w r b0 37 v) (ft : fits Try.prog w B 140737488351232 8 37 v.cells.toList) :
    ∃ x : ActM, v = .agg #[.int .i64 x.k, .string x.m.f, .string x.m.t, .int .i64 x.m.a.wall, .int .i32 x.m.a.logic, .int .i32 x.m.a.tag, .int .i32 x.m.nd, .int .i32 x.m.nu] ∧ InAm x := by
  obtain ⟨cs, rfl, hsz⟩ := okWide_struct Try.underlying37 hv
  obtain ⟨a, e, h⟩ := fits_am ft
  refine ⟨a, ?_, h⟩
  obtain ⟨l⟩ := cs
  simp only [Value.cells] at e
  rw [e]
  rfl
structure AmsArg (w : World) where
  A : Option Addr
  n : Nat
  c : Nat
  l : List ActM
  hl : l.length = n
  hc : n ≤ c
  hn : c ≤ 140737488351232
  hin : ∀ a ∈ l, InAm a
  rd : Rd w w.heap.size A (l.map amCells).flatten
theorem open_ams {w : World} {b0 : Nat} {r : Reach} {v : Value} (hv : Value.okWide Try.prog w r b0 24 v) (ft : fits Try.prog w w.heap.size 140737488351232 8 24 v.cells.toList) :
    ∃ x : AmsArg w, v = .slice x.A x.n x.c ∧ True := by
  obtain ⟨A, n, c, rfl⟩ := okWide_slice Try.underlying24 hv
  unfold fits at ft
  rw [Try.underlying24] at ft
  obtain ⟨A', n', c', e, hlc, hcN, css, hl, hf, hr⟩ := ft
  obtain ⟨rfl, rfl, rfl⟩ : A = A' ∧ n = n' ∧ c = c' := by simpa [Value.cells] using e
  obtain ⟨l, hll, hin⟩ := lift_list (f := amCells) (p := InAm) css (fun c hc => fits_am (d := 4) (hf c hc).2)
  refine ⟨⟨A, n, c, l, by rw [← hl, hll, List.length_map], hlc, hcN, hin, ?_⟩, rfl, trivial⟩
  rw [← hll]
  exact hr
/-- A question. -/
structure AskM where
  k : ByteArray
  nd : Int
  nu : Int
def akCells (x : AskM) : List Value := [.string x.k, .int .i32 x.nd, .int .i32 x.nu]
theorem fits_ak {w : World} {B N d : Nat} {cs : List Value} (ft : fits Try.prog w B N (d + 3) 44 cs) : ∃ a : AskM, cs = akCells a ∧ True := by
  unfold fits at ft
  rw [Try.underlying44] at ft
  obtain ⟨hl, hf⟩ := ft
  have hc : Try.prog.cellsOf 44 = 3 := by kernel_rfl
  have k0 : Try.prog.cellsOf 9 = 1 := by kernel_rfl
  have k3 : Try.prog.cellsOf 35 = 2 := by kernel_rfl
  rw [hc] at hl
  match cs, hl with
  | [c0, c1, c2], _ =>
    have h0 : fits Try.prog w B N (d + 2) 9 (([c0, c1, c2].drop 0).take (Try.prog.cellsOf 9)) := hf 0 _ rfl
    have h3 : fits Try.prog w B N (d + 2) 35 (([c0, c1, c2].drop 1).take (Try.prog.cellsOf 35)) := hf 1 _ rfl
    rw [k0] at h0
    rw [k3] at h3
    unfold fits at h0
    rw [Try.underlying9] at h0
    obtain ⟨x, e0, f0⟩ := h0
    obtain ⟨nd, nu, e3, f3, f4⟩ := fits_txn h3
    simp at e0 e3
    obtain ⟨rfl, rfl⟩ := e3
    subst e0
    exact ⟨⟨x, nd, nu⟩, rfl, trivial⟩
structure AksArg (w : World) where
  A : Option Addr
  n : Nat
  c : Nat
  l : List AskM
  hl : l.length = n
  hc : n ≤ c
  hn : c ≤ 140737488351232
  rd : Rd w w.heap.size A (l.map akCells).flatten
theorem open_aks {w : World} {b0 : Nat} {r : Reach} {v : Value} (hv : Value.okWide Try.prog w r b0 25 v) (ft : fits Try.prog w w.heap.size 140737488351232 8 25 v.cells.toList) :
    ∃ x : AksArg w, v = .slice x.A x.n x.c ∧ True := by
  obtain ⟨A, n, c, rfl⟩ := okWide_slice Try.underlying25 hv
  unfold fits at ft
  rw [Try.underlying25] at ft
  obtain ⟨A', n', c', e, hlc, hcN, css, hl, hf, hr⟩ := ft
  obtain ⟨rfl, rfl, rfl⟩ : A = A' ∧ n = n' ∧ c = c' := by simpa [Value.cells] using e
  obtain ⟨l, hll, hin⟩ := lift_list (f := akCells) (p := fun _ => True) css (fun c hc => fits_ak (d := 4) (hf c hc).2)
  refine ⟨⟨A, n, c, l, by rw [← hl, hll, List.length_map], hlc, hcN, ?_⟩, rfl, trivial⟩
  rw [← hll]
  exact hr
end Go.Proofs.Ytnhobjjgpnbnmaa
